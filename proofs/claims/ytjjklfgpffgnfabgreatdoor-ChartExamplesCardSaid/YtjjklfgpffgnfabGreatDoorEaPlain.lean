/-
 Charts in plain words: references, the places to which they lead, lines that lead from one edition to another one.
-/
import Derived.Test.YtjjklfgpffgnfabGreatDoorDaPlain
namespace Go.AB
open Go Go.RowKit
open Go.AB.Enc (cells)
open Go.PB (Chap TextD PlaceD ReadingD CopyD WayD)
structure RefD where
 ch : Int
 ln : Int
 wd : Int
 deriving DecidableEq
structure PassD where
 ch : Int
 ln : Int
 tc : Int
 tl : Int
 n : Int
 deriving DecidableEq
instance : Enc RefD := ⟨fun x => [.v (.int .i64 x.ch), .v (.int .i64 x.ln), .v (.int .i64 x.wd)], 3, fun _ => rfl, fun m x c h => by
 simp only [List.mem_cons, List.not_mem_nil, or_false] at h; rcases h with rfl | rfl | rfl <;> exact .v, fun x c h => by
 simp only [List.mem_cons, List.not_mem_nil, or_false] at h; rcases h with rfl | rfl | rfl <;> rfl⟩
instance : Enc PassD := ⟨fun x => [.v (.int .i64 x.ch), .v (.int .i64 x.ln), .v (.int .i64 x.tc), .v (.int .i64 x.tl), .v (.int .i64 x.n)], 5, fun _ => rfl, fun m x c h => by
 simp only [List.mem_cons, List.not_mem_nil, or_false] at h; rcases h with rfl | rfl | rfl | rfl | rfl <;> exact .v, fun x c h => by
 simp only [List.mem_cons, List.not_mem_nil, or_false] at h; rcases h with rfl | rfl | rfl | rfl | rfl <;> rfl⟩
instance : FlatV RefD := ⟨fun x => [.int .i64 x.ch, .int .i64 x.ln, .int .i64 x.wd], fun _ => rfl⟩
instance : FlatV PassD := ⟨fun x => [.int .i64 x.ch, .int .i64 x.ln, .int .i64 x.tc, .int .i64 x.tl, .int .i64 x.n], fun _ => rfl⟩

/-! ### The words of a line -/
def wordsOf (t : TextD) (p : L2) : Option (List ByteArray) := bif inB p.1 0 ((t.length : Int) - 1) && inB p.2 0 ((nlines t p.1 : Int) - 1) then (t[p.1.toNat]?).bind (fun c => c.lines[p.2.toNat]?) else none
def placeB (t : TextD) (p : PlaceD) : Bool := match wordsOf t (p.ch, p.ln) with
 | some l => inB p.wd 0 ((l.length : Int) - 1)
 | none => false
theorem wordsOf_get {t : TextD} {k n : Nat} {c : Chap} {l : List ByteArray} (hc : t[k]? = some c) (hl : c.lines[n]? = some l) : wordsOf t ((k : Int), (n : Int)) = some l := by
 have h1 := (List.getElem?_eq_some_iff.1 hc).1
 have h2 := (List.getElem?_eq_some_iff.1 hl).1
 have h3 : nlines t (k : Int) = c.lines.length := nlines_get rfl hc
 have e1 : inB (k : Int) 0 ((t.length : Int) - 1) = true := inB_true.2 (by omega)
 have e2 : inB (n : Int) 0 ((nlines t (k : Int) : Int) - 1) = true := inB_true.2 (by omega)
 simp only [wordsOf, e1, e2, Bool.and_self, cond_true, Int.toNat_natCast, hc, Option.bind_some, hl]
theorem wordsOf_some {t : TextD} {p : L2} {l : List ByteArray} (h : wordsOf t p = some l) : ∃ (k n : Nat) (c : Chap), p = ((k : Int), (n : Int)) ∧ t[k]? = some c ∧ c.lines[n]? = some l := by
 unfold wordsOf at h
 cases h1 : inB p.1 0 ((t.length : Int) - 1) with
 | false => rw [h1] at h; cases h
 | true =>
  cases h2 : inB p.2 0 ((nlines t p.1 : Int) - 1) with
  | false => rw [h1, h2] at h; cases h
  | true =>
   rw [h1, h2] at h
   simp only [Bool.and_self, cond_true] at h
   rw [inB_true] at h1 h2
   cases hc : t[p.1.toNat]? with
   | none => rw [hc] at h; cases h
   | some c =>
    rw [hc, Option.bind_some] at h
    exact ⟨p.1.toNat, p.2.toNat, c, by rw [Prod.ext_iff]; constructor <;> (dsimp only; omega), hc, h⟩
theorem placeB_true {t : TextD} {p : PlaceD} : placeB t p = true ↔ ∃ l, wordsOf t (p.ch, p.ln) = some l ∧ 0 ≤ p.wd ∧ p.wd < l.length := by
 unfold placeB
 cases h : wordsOf t (p.ch, p.ln) with
 | none => simp
 | some l =>
  simp only [inB_true, Option.some.injEq]
  constructor
  ·exact fun h => ⟨l, rfl, by omega, by omega⟩
  ·rintro ⟨l', rfl, h1, h2⟩; omega
theorem words_bd {t : TextD} (ht : textB t = true) {p : L2} {l : List ByteArray} (h : wordsOf t p = some l) : 0 ≤ p.1 ∧ p.1 ≤ 5 ∧ 0 ≤ p.2 ∧ p.2 ≤ 9 ∧ 1 ≤ l.length ∧ l.length ≤ 10 := by
 obtain ⟨k, n, c, rfl, hc, hl⟩ := wordsOf_some h
 obtain ⟨h1, h2, h3⟩ := text_ok ht
 obtain ⟨h4, h5, h6⟩ := h3 c (List.mem_of_getElem? hc)
 have h7 := h6 l (List.mem_of_getElem? hl)
 have h8 := (List.getElem?_eq_some_iff.1 hc).1
 have h9 := (List.getElem?_eq_some_iff.1 hl).1
 dsimp only
 omega
theorem mem_rows {t : TextD} {ss : List StretchD} {r : RowD} : r ∈ rowsT t ss ↔ ∃ p l, wordsOf t p = some l ∧ r = rowOf ss p l.length := by
 unfold rowsT
 constructor
 ·intro h
  obtain ⟨l, hl, hr⟩ := List.mem_flatten.1 h
  obtain ⟨k, hk, rfl⟩ := List.mem_mapIdx.1 hl
  obtain ⟨n, hn, rfl⟩ := List.mem_mapIdx.1 hr
  exact ⟨_, _, wordsOf_get (List.getElem?_eq_getElem hk) (List.getElem?_eq_getElem hn), rfl⟩
 ·rintro ⟨p, l, hw, rfl⟩
  obtain ⟨k, n, c, rfl, hc, hl⟩ := wordsOf_some hw
  have h8 := (List.getElem?_eq_some_iff.1 hc)
  have h9 := (List.getElem?_eq_some_iff.1 hl)
  refine List.mem_flatten.2 ⟨_, List.mem_mapIdx.2 ⟨k, h8.1, rfl⟩, List.mem_mapIdx.2 ⟨n, by rw [h8.2]; exact h9.1, ?_⟩⟩
  congr 2
  simp only [h8.2, h9.2]
theorem mem_lines {t : TextD} {p : L2} : p ∈ linesT t ↔ ∃ l, wordsOf t p = some l := by
 rw [← rows_lines t [], List.mem_map]
 constructor
 ·rintro ⟨r, hr, rfl⟩
  obtain ⟨q, l, hw, rfl⟩ := mem_rows.1 hr
  exact ⟨l, hw⟩
 ·rintro ⟨l, hw⟩
  exact ⟨_, mem_rows.2 ⟨p, l, hw, rfl⟩, rfl⟩
theorem asOf_words {t : TextD} {ss : List StretchD} (h : Sound t ss) {p v : L2} (hv : asOf ss p = some v) : ∃ l, wordsOf t p = some l := by
 obtain ⟨r, hr, h1, _⟩ := asOf_line h hv
 obtain ⟨q, l, hw, rfl⟩ := mem_rows.1 hr
 exact ⟨l, h1 ▸ hw⟩

/-! ### References -/
noncomputable def referEr (t : TextD) (e : EditionD) (p : PlaceD) : Int := bif decide (soundEr t e = 0) then (bif placeB t p then (bif (asOf e.ss (p.ch, p.ln)).isSome then 0 else 6) else 12) else soundEr t e
noncomputable def referV (t : TextD) (e : EditionD) (p : PlaceD) : RefD := bif decide (referEr t e p = 0) then ⟨((asOf e.ss (p.ch, p.ln)).getD (0, 0)).1, ((asOf e.ss (p.ch, p.ln)).getD (0, 0)).2, p.wd + 1⟩ else ⟨0, 0, 0⟩
def refB (r : RefD) : Bool := inB r.ch 1 999 && (inB r.ln 1 999 && inB r.wd 1 999)
theorem refB_in (r : RefD) : refB r = inAll 1 999 [r.ch, r.ln, r.wd] := by
 unfold refB
 rw [← outB_inB, ← outB_inB, ← outB_inB]; simp [inAll]
/-! ### Where they lead -/
def leadO (t : TextD) (ss : List StretchD) (r : RefD) : Option PlaceD := match backOf ss (r.ch, r.ln) with
 | none => none
 | some p => bif decide ((((wordsOf t p).getD []).length : Int) < r.wd) then none else some ⟨p.1, p.2, r.wd - 1⟩
theorem leadO_place {t : TextD} {ss : List StretchD} (hS : Sound t ss) {r : RefD} (hr : refB r = true) {p : PlaceD} (h : leadO t ss r = some p) : placeB t p = true ∧ asOf ss (p.ch, p.ln) = some (r.ch, r.ln) ∧ p.wd + 1 = r.wd := by
 simp only [refB, Bool.and_eq_true, inB_true] at hr
 unfold leadO at h
 cases hb : backOf ss (r.ch, r.ln) with
 | none => rw [hb] at h; cases h
 | some q =>
  rw [hb] at h
  have hv := (back_iff hS.no).1 hb
  obtain ⟨l, hw⟩ := asOf_words hS hv
  simp only [hw, Option.getD_some] at h
  by_cases hl : (l.length : Int) < r.wd
  ·rw [decide_eq_true hl] at h; cases h
  ·rw [decide_eq_false hl] at h
   simp only [cond_false, Option.some.injEq] at h
   subst h
   exact ⟨placeB_true.2 ⟨l, hw, by dsimp only; omega, by dsimp only; omega⟩, hv, by dsimp only; omega⟩
def leadEr0 (t : TextD) (ss : List StretchD) (r : RefD) : Int := bif refB r then (bif (leadO t ss r).isSome then 0 else 6) else 2
noncomputable def leadEr (t : TextD) (e : EditionD) (r : RefD) : Int := bif decide (soundEr t e = 0) then leadEr0 t e.ss r else soundEr t e
noncomputable def leadV (t : TextD) (e : EditionD) (r : RefD) : PlaceD := bif decide (leadEr t e r = 0) then (leadO t e.ss r).getD ⟨0, 0, 0⟩ else ⟨0, 0, 0⟩

/-! ### Two editions -/
noncomputable def bothEr (t : TextD) (e f : EditionD) : Int := bif decide (checkEr t e = 0) then (bif decide (checkEr t f = 0) then (bif decide (soundEr t e = 0) then soundEr t f else soundEr t e) else checkEr t f) else checkEr t e
theorem bothEr_ok {t : TextD} {e f : EditionD} (h : bothEr t e f = 0) : soundEr t e = 0 ∧ soundEr t f = 0 := by
 unfold bothEr at h
 by_cases h1 : checkEr t e = 0
 ·by_cases h2 : checkEr t f = 0
  ·by_cases h3 : soundEr t e = 0
   ·simp only [h1, h2, h3, decide_true, cond_true] at h; exact ⟨h3, h⟩
   ·simp only [h1, h2, h3, decide_true, decide_false, cond_true, cond_false] at h
  ·simp only [h1, h2, decide_true, decide_false, cond_true, cond_false] at h
 ·simp only [h1, decide_false, cond_false] at h
noncomputable def turnEr (t : TextD) (e f : EditionD) (r : RefD) : Int := bif decide (bothEr t e f = 0) then (bif decide (leadEr0 t e.ss r = 0) then referEr t f ((leadO t e.ss r).getD ⟨0, 0, 0⟩) else leadEr0 t e.ss r) else bothEr t e f
noncomputable def turnV (t : TextD) (e f : EditionD) (r : RefD) : RefD := bif decide (turnEr t e f r = 0) then referV t f ((leadO t e.ss r).getD ⟨0, 0, 0⟩) else ⟨0, 0, 0⟩

/-! ### Lines in order -/
theorem sorted_uniq {α : Type} {lt : α → α → Prop} (irr : ∀ a, ¬ lt a a) (asy : ∀ a b, lt a b → ¬ lt b a) : ∀ {l m : List α}, l.Pairwise lt → m.Pairwise lt → (∀ x, x ∈ l ↔ x ∈ m) → l = m
 | [], m, _, _, h => by
  cases m with
  | nil => rfl
  | cons b m => exact absurd ((h b).2 (List.mem_cons_self ..)) (by simp)
 | a :: l, m, hl, hm, h => by
  cases m with
  | nil => exact absurd ((h a).1 (List.mem_cons_self ..)) (by simp)
  | cons b m =>
   rw [List.pairwise_cons] at hl hm
   have hab : a = b := by
    rcases List.mem_cons.1 ((h a).1 (List.mem_cons_self ..)) with h1 | h1
    ·exact h1
    ·rcases List.mem_cons.1 ((h b).2 (List.mem_cons_self ..)) with h2 | h2
     ·exact h2.symm
     ·exact absurd (hl.1 b h2) (asy _ _ (hm.1 a h1))
   subst hab
   congr 1
   refine sorted_uniq irr asy hl.2 hm.2 fun x => ⟨fun hx => ?_, fun hx => ?_⟩
   ·rcases List.mem_cons.1 ((h x).1 (List.mem_cons_of_mem _ hx)) with h1 | h1
    ·subst h1; exact absurd (hl.1 x hx) (irr x)
    ·exact h1
   ·rcases List.mem_cons.1 ((h x).2 (List.mem_cons_of_mem _ hx)) with h1 | h1
    ·subst h1; exact absurd (hm.1 x hx) (irr x)
    ·exact h1
def ltL (a b : L2) : Prop := a.1 < b.1 ∨ a.1 = b.1 ∧ a.2 < b.2
instance (a b : L2) : Decidable (ltL a b) := inferInstanceAs (Decidable (_ ∨ _))
theorem ltL_irr (a : L2) : ¬ ltL a a := by unfold ltL; omega
theorem ltL_asy (a b : L2) (h : ltL a b) : ¬ ltL b a := by unfold ltL at h ⊢; omega
theorem ltL_trans {a b c : L2} (h : ltL a b) (k : ltL b c) : ltL a c := by unfold ltL at h k ⊢; omega
theorem ltL_tri {a b : L2} (h : ¬ ltL a b) (k : ¬ ltL b a) : a = b := by
 obtain ⟨a1, a2⟩ := a
 obtain ⟨b1, b2⟩ := b
 unfold ltL at h k
 simp only [Prod.mk.injEq]
 dsimp only at h k
 omega
def passK (x : PassD) : L2 := (x.ch, x.ln)
def passOf (v u : L2) : PassD := ⟨v.1, v.2, u.1, u.2, 1⟩
/-- one line each, in the order of the first edition -/
structure CrossOk (es fs : List StretchD) (L : List PassD) : Prop where
 sorted : L.Pairwise fun a b => ltL (passK a) (passK b)
 mem : ∀ x, x ∈ L ↔ ∃ p v u, asOf es p = some v ∧ asOf fs p = some u ∧ x = passOf v u
theorem crossOk_uniq {es fs : List StretchD} {L M : List PassD} (h : CrossOk es fs L) (k : CrossOk es fs M) : L = M :=
 sorted_uniq (lt := fun a b => ltL (passK a) (passK b)) (fun a => ltL_irr _) (fun a b => ltL_asy _ _) h.sorted k.sorted fun x => (h.mem x).trans (k.mem x).symm
open Classical in
noncomputable def crossS (es fs : List StretchD) : List PassD := if h : ∃ L, CrossOk es fs L then h.choose else []
theorem crossS_eq {es fs : List StretchD} {L : List PassD} (h : CrossOk es fs L) : crossS es fs = L := by
 unfold crossS
 rw [dif_pos ⟨L, h⟩]
 exact crossOk_uniq (Exists.choose_spec (p := CrossOk es fs) ⟨L, h⟩) h
def onP (p x : PassD) : Bool := decide (p.ch = x.ch) && (decide (p.ln + p.n = x.ln) && (decide (p.tc = x.tc) && decide (p.tl + p.n = x.tl)))
def stepQ (out : List PassD) (x : PassD) : List PassD := match out[out.length - 1]? with
 | some p => bif onP p x then out.set (out.length - 1) { p with n := p.n + 1 } else out ++ [x]
 | none => out ++ [x]
def mergeQ (L : List PassD) : List PassD := L.foldl stepQ []
theorem mergeQ_snoc (L : List PassD) (x : PassD) : mergeQ (L ++ [x]) = stepQ (mergeQ L) x := by simp [mergeQ]
theorem mergeQ_succ {L : List PassD} {k : Nat} {x : PassD} (h : L[k]? = some x) : mergeQ (L.take (k + 1)) = stepQ (mergeQ (L.take k)) x := by
 rw [List.take_add_one, h, Option.toList_some, mergeQ_snoc]
theorem stepQ_nil {out : List PassD} {x : PassD} (h : out = []) : stepQ out x = out ++ [x] := by subst h; rfl
theorem stepQ_on {out : List PassD} {p x : PassD} (hp : out[out.length - 1]? = some p) (h : onP p x = true) : stepQ out x = out.set (out.length - 1) { p with n := p.n + 1 } := by
 simp only [stepQ, hp, h, cond_true]
theorem stepQ_new {out : List PassD} {p x : PassD} (hp : out[out.length - 1]? = some p) (h : onP p x = false) : stepQ out x = out ++ [x] := by
 simp only [stepQ, hp, h, cond_false]
theorem stepQ_len (out : List PassD) (x : PassD) : (stepQ out x).length ≤ out.length + 1 := by
 unfold stepQ
 split
 ·cases onP _ x <;> simp
 ·simp
theorem mergeQ_len (L : List PassD) : (mergeQ L).length ≤ L.length := by
 unfold mergeQ
 suffices h : ∀ (L out : List PassD), (L.foldl stepQ out).length ≤ out.length + L.length by simpa using h L []
 intro L
 induction L with
 | nil => intro out; simp
 | cons x L ih =>
  intro out
  rw [List.foldl_cons]
  have h1 := ih (stepQ out x)
  have h2 := stepQ_len out x
  simp only [List.length_cons]
  omega
/-- numbers of a line that leads -/
structure PBd (m : Int) (x : PassD) : Prop where
 ch : 0 ≤ x.ch ∧ x.ch ≤ 999
 ln : 0 ≤ x.ln ∧ x.ln ≤ 999
 tc : 0 ≤ x.tc ∧ x.tc ≤ 999
 tl : 0 ≤ x.tl ∧ x.tl ≤ 999
 n : 1 ≤ x.n ∧ x.n ≤ m
theorem PBd.mono {m m' : Int} {x : PassD} (h : PBd m x) (hm : m ≤ m') : PBd m' x := ⟨h.ch, h.ln, h.tc, h.tl, h.n.1, by have := h.n.2; omega⟩
theorem mergeQ_bd {L : List PassD} (h : ∀ x ∈ L, PBd 1 x) : ∀ x ∈ mergeQ L, PBd (L.length + 1) x := by
 suffices k : ∀ k, k ≤ L.length → ∀ x ∈ mergeQ (L.take k), PBd (k + 1) x by
  have := k L.length (Nat.le_refl _)
  rwa [List.take_length] at this
 intro k
 induction k with
 | zero => intro _ x hx; simp [mergeQ] at hx
 | succ k ih =>
  intro hk x hx
  have hx0 : L[k]? = some L[k] := List.getElem?_eq_getElem (by omega)
  have hb := h L[k] (List.mem_of_getElem? hx0)
  have ih' := ih (by omega)
  have ap : ∀ z ∈ mergeQ (L.take k) ++ [L[k]], PBd ((k + 1 : Nat) + 1) z := fun z hz => by
   rcases List.mem_append.1 hz with hz | hz
   ·exact (ih' z hz).mono (by omega)
   ·rw [List.mem_singleton] at hz; subst hz; exact hb.mono (by omega)
  rw [mergeQ_succ hx0] at hx
  unfold stepQ at hx
  split at hx
  ·rename_i p hp
   cases ho : onP p L[k] with
   | false => rw [ho] at hx; exact ap x hx
   | true =>
    rw [ho] at hx
    simp only [cond_true] at hx
    rcases List.mem_or_eq_of_mem_set hx with hx | rfl
    ·exact (ih' x hx).mono (by omega)
    ·have := ih' p (List.mem_of_getElem? hp)
     obtain ⟨a1, a2, a3, a4, a5⟩ := this
     exact ⟨a1, a2, a3, a4, by dsimp only; omega⟩
  ·exact ap x hx
noncomputable def crossL (t : TextD) (e f : EditionD) : List PassD := bif decide (bothEr t e f = 0) then mergeQ (crossS e.ss f.ss) else []

/-! ### A list into which one is put -/
theorem linesT_sorted (t : TextD) : (linesT t).Pairwise ltL := by
 unfold linesT
 rw [List.pairwise_flatten]
 constructor
 ·intro l hl
  obtain ⟨k, hk, rfl⟩ := List.mem_mapIdx.1 hl
  rw [List.pairwise_iff_getElem]
  intro i j hi hj hij
  simp only [List.getElem_mapIdx]
  right
  exact ⟨rfl, by dsimp only; omega⟩
 ·rw [List.pairwise_iff_getElem]
  intro i j hi hj hij x hx y hy
  simp only [List.getElem_mapIdx] at hx hy
  obtain ⟨a, ha, rfl⟩ := List.mem_mapIdx.1 hx
  obtain ⟨b, hb, rfl⟩ := List.mem_mapIdx.1 hy
  left
  dsimp only
  omega
theorem crossOk_bd {es fs : List StretchD} (he : ∀ s ∈ es, SOk s) (hf : ∀ s ∈ fs, SOk s) {L : List PassD} (h : CrossOk es fs L) : ∀ x ∈ L, PBd 1 x := fun x hx => by
 obtain ⟨p, v, u, hv, hu, rfl⟩ := (h.mem x).1 hx
 have a1 := asOf_pos he hv
 have a2 := asOf_pos hf hu
 exact ⟨by simp only [passOf]; omega, by simp only [passOf]; omega, by simp only [passOf]; omega, by simp only [passOf]; omega, by simp only [passOf]; omega⟩
theorem wordsOf_isSome {t : TextD} {p : L2} : (wordsOf t p).isSome = (inB p.1 0 ((t.length : Int) - 1) && inB p.2 0 ((nlines t p.1 : Int) - 1)) := by
 unfold wordsOf
 cases h1 : inB p.1 0 ((t.length : Int) - 1) with
 | false => rfl
 | true =>
  cases h2 : inB p.2 0 ((nlines t p.1 : Int) - 1) with
  | false => rfl
  | true =>
   simp only [Bool.and_self, cond_true]
   rw [inB_true] at h1 h2
   have hk : p.1.toNat < t.length := by omega
   have hn : nlines t p.1 = t[p.1.toNat].lines.length := nlines_get (k := p.1.toNat) (by omega) (List.getElem?_eq_getElem hk)
   rw [List.getElem?_eq_getElem hk, Option.bind_some, List.getElem?_eq_getElem (by omega)]
   rfl
/-! ### What is found first -/
theorem take_no {α : Type} {q : α → Bool} {l : List α} {k : Nat} {x : α} (hx : l[k]? = some x) (h : ∀ y ∈ l.take k, q y = false) (hq : q x = false) : ∀ y ∈ l.take (k + 1), q y = false := fun y hy => by
 rw [List.take_add_one, hx, Option.toList_some, List.mem_append, List.mem_singleton] at hy
 rcases hy with hy | rfl
 ·exact h y hy
 ·exact hq
end Go.AB

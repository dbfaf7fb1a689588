/-
  Charts in plain words: references, the places to which they lead, lines that lead from one edition to another one.
-/
import Derived.Test.YtjjklfgpffgnfaaDoorDaPlain
namespace Go.AB
open Go Go.RowKit
open Go.AB.Enc (cells)
open Go.PB (Chap TextD PlaceD ReadingD CopyD WayD)
structure RefD where
  ch : Int
  ln : Int
  wd : Int
  deriving DecidableEq
structure PassD where
  ch : Int
  ln : Int
  tc : Int
  tl : Int
  n : Int
  deriving DecidableEq
instance : Enc RefD := ⟨fun x => [.v (.int .i64 x.ch), .v (.int .i64 x.ln), .v (.int .i64 x.wd)], 3, fun _ => rfl, fun m x c h => by
  simp only [List.mem_cons, List.not_mem_nil, or_false] at h; rcases h with rfl | rfl | rfl <;> exact .v, fun x c h => by
  simp only [List.mem_cons, List.not_mem_nil, or_false] at h; rcases h with rfl | rfl | rfl <;> rfl⟩
instance : Enc PassD := ⟨fun x => [.v (.int .i64 x.ch), .v (.int .i64 x.ln), .v (.int .i64 x.tc), .v (.int .i64 x.tl), .v (.int .i64 x.n)], 5, fun _ => rfl, fun m x c h => by
  simp only [List.mem_cons, List.not_mem_nil, or_false] at h; rcases h with rfl | rfl | rfl | rfl | rfl <;> exact .v, fun x c h => by
  simp only [List.mem_cons, List.not_mem_nil, or_false] at h; rcases h with rfl | rfl | rfl | rfl | rfl <;> rfl⟩
instance : FlatV RefD := ⟨fun x => [.int .i64 x.ch, .int .i64 x.ln, .int .i64 x.wd], fun _ => rfl⟩
instance : FlatV PassD := ⟨fun x => [.int .i64 x.ch, .int .i64 x.ln, .int .i64 x.tc, .int .i64 x.tl, .int .i64 x.n], fun _ => rfl⟩

/-! ### The words of a line -/
def wordsOf (t : TextD) (p : L2) : Option (List ByteArray) := bif inB p.1 0 ((t.length : Int) - 1) && inB p.2 0 ((nlines t p.1 : Int) - 1) then (t[p.1.toNat]?).bind (fun c => c.lines[p.2.toNat]?) else none
def placeB (t : TextD) (p : PlaceD) : Bool := match wordsOf t (p.ch, p.ln) with
  | some l => inB p.wd 0 ((l.length : Int) - 1)
  | none => false
theorem wordsOf_get {t : TextD} {k n : Nat} {c : Chap} {l : List ByteArray} (hc : t[k]? = some c) (hl : c.lines[n]? = some l) : wordsOf t ((k : Int), (n : Int)) = some l := by
  have h1 := (List.getElem?_eq_some_iff.1 hc).1
  have h2 := (List.getElem?_eq_some_iff.1 hl).1
  have h3 : nlines t (k : Int) = c.lines.length := nlines_get rfl hc
  have e1 : inB (k : Int) 0 ((t.length : Int) - 1) = true := inB_true.2 (by omega)
  have e2 : inB (n : Int) 0 ((nlines t (k : Int) : Int) - 1) = true := inB_true.2 (by omega)
  simp only [wordsOf, e1, e2, Bool.and_self, cond_true, Int.toNat_natCast, hc, Option.bind_some, hl]
theorem wordsOf_some {t : TextD} {p : L2} {l : List ByteArray} (h : wordsOf t p = some l) : ∃ (k n : Nat) (c : Chap), p = ((k : Int), (n : Int)) ∧ t[k]? = some c ∧ c.lines[n]? = some l := by
  unfold wordsOf at h
  cases h1 : inB p.1 0 ((t.length : Int) - 1) with
  | false => rw [h1] at h; cases h
  | true =>
    cases h2 : inB p.2 0 ((nlines t p.1 : Int) - 1) with
    | false => rw [h1, h2] at h; cases h
    | true =>
      rw [h1, h2] at h
      simp only [Bool.and_self, cond_true] at h
      rw [inB_true] at h1 h2
      cases hc : t[p.1.toNat]? with
      | none => rw [hc] at h; cases h
      | some c =>
        rw [hc, Option.bind_some] at h
        exact ⟨p.1.toNat, p.2.toNat, c, by rw [Prod.ext_iff]; constructor <;> (dsimp only; omega), hc, h⟩
theorem placeB_true {t : TextD} {p : PlaceD} : placeB t p = true ↔ ∃ l, wordsOf t (p.ch, p.ln) = some l ∧ 0 ≤ p.wd ∧ p.wd < l.length := by
  unfold placeB
  cases h : wordsOf t (p.ch, p.ln) with
  | none => simp
  | some l =>
    simp only [inB_true, Option.some.injEq]
    constructor
    · exact fun h => ⟨l, rfl, by omega, by omega⟩
    · rintro ⟨l', rfl, h1, h2⟩; omega
theorem words_bd {t : TextD} (ht : textB t = true) {p : L2} {l : List ByteArray} (h : wordsOf t p = some l) : 0 ≤ p.1 ∧ p.1 ≤ 5 ∧ 0 ≤ p.2 ∧ p.2 ≤ 9 ∧ 1 ≤ l.length ∧ l.length ≤ 10 := by
  obtain ⟨k, n, c, rfl, hc, hl⟩ := wordsOf_some h
  obtain ⟨h1, h2, h3⟩ := text_ok ht
  obtain ⟨h4, h5, h6⟩ := h3 c (List.mem_of_getElem? hc)
  have h7 := h6 l (List.mem_of_getElem? hl)
  have h8 := (List.getElem?_eq_some_iff.1 hc).1
  have h9 := (List.getElem?_eq_some_iff.1 hl).1
  dsimp only
  omega
theorem mem_rows {t : TextD} {ss : List StretchD} {r : RowD} : r ∈ rowsT t ss ↔ ∃ p l, wordsOf t p = some l ∧ r = rowOf ss p l.length := by
  unfold rowsT
  constructor
  · intro h
    obtain ⟨l, hl, hr⟩ := List.mem_flatten.1 h
    obtain ⟨k, hk, rfl⟩ := List.mem_mapIdx.1 hl
    obtain ⟨n, hn, rfl⟩ := List.mem_mapIdx.1 hr
    exact ⟨_, _, wordsOf_get (List.getElem?_eq_getElem hk) (List.getElem?_eq_getElem hn), rfl⟩
  · rintro ⟨p, l, hw, rfl⟩
    obtain ⟨k, n, c, rfl, hc, hl⟩ := wordsOf_some hw
    have h8 := (List.getElem?_eq_some_iff.1 hc)
    have h9 := (List.getElem?_eq_some_iff.1 hl)
    refine List.mem_flatten.2 ⟨_, List.mem_mapIdx.2 ⟨k, h8.1, rfl⟩, List.mem_mapIdx.2 ⟨n, by rw [h8.2]; exact h9.1, ?_⟩⟩
    congr 2
    simp only [h8.2, h9.2]
theorem mem_lines {t : TextD} {p : L2} : p ∈ linesT t ↔ ∃ l, wordsOf t p = some l := by
  rw [← rows_lines t [], List.mem_map]
  constructor
  · rintro ⟨r, hr, rfl⟩
    obtain ⟨q, l, hw, rfl⟩ := mem_rows.1 hr
    exact ⟨l, hw⟩
  · rintro ⟨l, hw⟩
    exact ⟨_, mem_rows.2 ⟨p, l, hw, rfl⟩, rfl⟩
theorem asOf_words {t : TextD} {ss : List StretchD} (h : Sound t ss) {p v : L2} (hv : asOf ss p = some v) : ∃ l, wordsOf t p = some l := by
  obtain ⟨r, hr, h1, _⟩ := asOf_line h hv
  obtain ⟨q, l, hw, rfl⟩ := mem_rows.1 hr
  exact ⟨l, h1 ▸ hw⟩

/-! ### References -/
def atR (l : List RowD) (p : PlaceD) : RowD := (l.find? fun r => decide (r.ch = p.ch) && decide (r.ln = p.ln)).getD ⟨0, 0, 0, 0, 0⟩
theorem find_is {α : Type} {q : α → Bool} {l : List α} {x : α} (hx : x ∈ l) (hq : q x = true) (hu : ∀ y ∈ l, q y = true → y = x) : l.find? q = some x := by
  cases h : l.find? q with
  | none => exact absurd hq (by simpa using List.find?_eq_none.1 h x hx)
  | some y => rw [hu y (List.mem_of_find?_eq_some h) (List.find?_some h)]
theorem atR_rows {t : TextD} {ss : List StretchD} {p : PlaceD} {l : List ByteArray} (h : wordsOf t (p.ch, p.ln) = some l) : atR (rowsT t ss) p = rowOf ss (p.ch, p.ln) l.length := by
  unfold atR
  rw [find_is (x := rowOf ss (p.ch, p.ln) l.length) (mem_rows.2 ⟨_, l, h, rfl⟩) (by simp [rowOf]) fun y hy hq => ?_]
  · rfl
  · obtain ⟨q, l', hw, rfl⟩ := mem_rows.1 hy
    simp only [Bool.and_eq_true, decide_eq_true_eq] at hq
    have : q = (p.ch, p.ln) := Prod.ext hq.1 hq.2
    subst this
    rw [h] at hw
    cases hw; rfl
noncomputable def referEr (t : TextD) (e : EditionD) (p : PlaceD) : Int := bif decide (soundEr t e = 0) then (bif placeB t p then (bif (asOf e.ss (p.ch, p.ln)).isSome then 0 else 6) else 12) else soundEr t e
noncomputable def referV (t : TextD) (e : EditionD) (p : PlaceD) : RefD := bif decide (referEr t e p = 0) then ⟨((asOf e.ss (p.ch, p.ln)).getD (0, 0)).1, ((asOf e.ss (p.ch, p.ln)).getD (0, 0)).2, p.wd + 1⟩ else ⟨0, 0, 0⟩
def refB (r : RefD) : Bool := inB r.ch 1 999 && (inB r.ln 1 999 && inB r.wd 1 999)
theorem refB_in (r : RefD) : refB r = inAll 1 999 [r.ch, r.ln, r.wd] := by
  unfold refB
  rw [← outB_inB, ← outB_inB, ← outB_inB]; simp [inAll]
/-! ### Where they lead -/
def leadR (l : List RowD) (r : RefD) : Option PlaceD := (l.find? fun x => decide (x.au = r.ch) && (decide (x.nu = r.ln) && inB r.wd 1 x.ws)).map fun x => ⟨x.ch, x.ln, r.wd - 1⟩
def leadO (t : TextD) (ss : List StretchD) (r : RefD) : Option PlaceD := match backOf ss (r.ch, r.ln) with
  | none => none
  | some p => bif decide ((((wordsOf t p).getD []).length : Int) < r.wd) then none else some ⟨p.1, p.2, r.wd - 1⟩
theorem lead_same {t : TextD} {ss : List StretchD} (hS : Sound t ss) {r : RefD} (hr : refB r = true) : leadR (rowsT t ss) r = leadO t ss r := by
  simp only [refB, Bool.and_eq_true, inB_true] at hr
  -- a row with these numbers
  have key : ∀ x ∈ rowsT t ss, (decide (x.au = r.ch) && (decide (x.nu = r.ln) && inB r.wd 1 x.ws)) = true → ∃ l, wordsOf t (x.ch, x.ln) = some l ∧ x = rowOf ss (x.ch, x.ln) l.length ∧ backOf ss (r.ch, r.ln) = some (x.ch, x.ln) ∧ r.wd ≤ l.length := by
    intro x hx hq
    obtain ⟨q, l, hw, rfl⟩ := mem_rows.1 hx
    simp only [Bool.and_eq_true, decide_eq_true_eq, inB_true] at hq
    have q1 : ((asOf ss q).getD (0, 0)).1 = r.ch := hq.1
    have q2 : ((asOf ss q).getD (0, 0)).2 = r.ln := hq.2.1
    refine ⟨l, hw, rfl, ?_, hq.2.2.2⟩
    rw [back_iff hS.no]
    show asOf ss q = _
    cases hv : asOf ss q with
    | none => rw [hv] at q1; simp only [Option.getD_none] at q1; omega
    | some v =>
      rw [hv] at q1 q2
      simp only [Option.getD_some] at q1 q2
      rw [← q1, ← q2]
  unfold leadR leadO
  cases hb : backOf ss (r.ch, r.ln) with
  | none =>
    rw [List.find?_eq_none.2 fun x hx hq => ?_]
    · rfl
    · obtain ⟨l, _, _, h1, _⟩ := key x hx hq
      rw [hb] at h1; cases h1
  | some p =>
    have hv := (back_iff hS.no).1 hb
    obtain ⟨l, hw⟩ := asOf_words hS hv
    dsimp only
    rw [hw]
    simp only [Option.getD_some]
    by_cases hl : (l.length : Int) < r.wd
    · rw [decide_eq_true hl, List.find?_eq_none.2 fun x hx hq => ?_]
      · rfl
      · obtain ⟨l', h1, _, h2, h3⟩ := key x hx hq
        rw [hb] at h2
        cases h2
        rw [hw] at h1
        cases h1
        omega
    · rw [decide_eq_false hl, find_is (x := rowOf ss p l.length) (mem_rows.2 ⟨_, l, hw, rfl⟩) (by simp only [rowOf, hv, Option.getD_some, decide_true, Bool.true_and, inB_true]; omega) fun y hy hq => ?_]
      · rfl
      · obtain ⟨l', h1, h4, h2, h3⟩ := key y hy hq
        rw [hb] at h2
        cases h2
        rw [hw] at h1
        cases h1
        exact h4
theorem leadO_place {t : TextD} {ss : List StretchD} (hS : Sound t ss) {r : RefD} (hr : refB r = true) {p : PlaceD} (h : leadO t ss r = some p) : placeB t p = true ∧ asOf ss (p.ch, p.ln) = some (r.ch, r.ln) ∧ p.wd + 1 = r.wd := by
  simp only [refB, Bool.and_eq_true, inB_true] at hr
  unfold leadO at h
  cases hb : backOf ss (r.ch, r.ln) with
  | none => rw [hb] at h; cases h
  | some q =>
    rw [hb] at h
    have hv := (back_iff hS.no).1 hb
    obtain ⟨l, hw⟩ := asOf_words hS hv
    simp only [hw, Option.getD_some] at h
    by_cases hl : (l.length : Int) < r.wd
    · rw [decide_eq_true hl] at h; cases h
    · rw [decide_eq_false hl] at h
      simp only [cond_false, Option.some.injEq] at h
      subst h
      exact ⟨placeB_true.2 ⟨l, hw, by dsimp only; omega, by dsimp only; omega⟩, hv, by dsimp only; omega⟩
def leadEr0 (t : TextD) (ss : List StretchD) (r : RefD) : Int := bif refB r then (bif (leadO t ss r).isSome then 0 else 6) else 2
noncomputable def leadEr (t : TextD) (e : EditionD) (r : RefD) : Int := bif decide (soundEr t e = 0) then leadEr0 t e.ss r else soundEr t e
noncomputable def leadV (t : TextD) (e : EditionD) (r : RefD) : PlaceD := bif decide (leadEr t e r = 0) then (leadO t e.ss r).getD ⟨0, 0, 0⟩ else ⟨0, 0, 0⟩

/-! ### Two editions -/
noncomputable def bothEr (t : TextD) (e f : EditionD) : Int := bif decide (checkEr t e = 0) then (bif decide (checkEr t f = 0) then (bif decide (soundEr t e = 0) then soundEr t f else soundEr t e) else checkEr t f) else checkEr t e
theorem bothEr_ok {t : TextD} {e f : EditionD} (h : bothEr t e f = 0) : soundEr t e = 0 ∧ soundEr t f = 0 := by
  unfold bothEr at h
  by_cases h1 : checkEr t e = 0
  · by_cases h2 : checkEr t f = 0
    · by_cases h3 : soundEr t e = 0
      · simp only [h1, h2, h3, decide_true, cond_true] at h; exact ⟨h3, h⟩
      · simp only [h1, h2, h3, decide_true, decide_false, cond_true, cond_false] at h
    · simp only [h1, h2, decide_true, decide_false, cond_true, cond_false] at h
  · simp only [h1, decide_false, cond_false] at h
noncomputable def turnEr (t : TextD) (e f : EditionD) (r : RefD) : Int := bif decide (bothEr t e f = 0) then (bif decide (leadEr0 t e.ss r = 0) then referEr t f ((leadO t e.ss r).getD ⟨0, 0, 0⟩) else leadEr0 t e.ss r) else bothEr t e f
noncomputable def turnV (t : TextD) (e f : EditionD) (r : RefD) : RefD := bif decide (turnEr t e f r = 0) then referV t f ((leadO t e.ss r).getD ⟨0, 0, 0⟩) else ⟨0, 0, 0⟩

/-! ### Lines in order -/
theorem sorted_uniq {α : Type} {lt : α → α → Prop} (irr : ∀ a, ¬ lt a a) (asy : ∀ a b, lt a b → ¬ lt b a) : ∀ {l m : List α}, l.Pairwise lt → m.Pairwise lt → (∀ x, x ∈ l ↔ x ∈ m) → l = m
  | [], m, _, _, h => by
    cases m with
    | nil => rfl
    | cons b m => exact absurd ((h b).2 (List.mem_cons_self ..)) (by simp)
  | a :: l, m, hl, hm, h => by
    cases m with
    | nil => exact absurd ((h a).1 (List.mem_cons_self ..)) (by simp)
    | cons b m =>
      rw [List.pairwise_cons] at hl hm
      have hab : a = b := by
        rcases List.mem_cons.1 ((h a).1 (List.mem_cons_self ..)) with h1 | h1
        · exact h1
        · rcases List.mem_cons.1 ((h b).2 (List.mem_cons_self ..)) with h2 | h2
          · exact h2.symm
          · exact absurd (hl.1 b h2) (asy _ _ (hm.1 a h1))
      subst hab
      congr 1
      refine sorted_uniq irr asy hl.2 hm.2 fun x => ⟨fun hx => ?_, fun hx => ?_⟩
      · rcases List.mem_cons.1 ((h x).1 (List.mem_cons_of_mem _ hx)) with h1 | h1
        · subst h1; exact absurd (hl.1 x hx) (irr x)
        · exact h1
      · rcases List.mem_cons.1 ((h x).2 (List.mem_cons_of_mem _ hx)) with h1 | h1
        · subst h1; exact absurd (hm.1 x hx) (irr x)
        · exact h1
def ltL (a b : L2) : Prop := a.1 < b.1 ∨ a.1 = b.1 ∧ a.2 < b.2
theorem ltL_irr (a : L2) : ¬ ltL a a := by unfold ltL; omega
theorem ltL_asy (a b : L2) (h : ltL a b) : ¬ ltL b a := by unfold ltL at h ⊢; omega
theorem ltL_trans {a b c : L2} (h : ltL a b) (k : ltL b c) : ltL a c := by unfold ltL at h k ⊢; omega
theorem ltL_tri {a b : L2} (h : ¬ ltL a b) (k : ¬ ltL b a) : a = b := by
  obtain ⟨a1, a2⟩ := a
  obtain ⟨b1, b2⟩ := b
  unfold ltL at h k
  simp only [Prod.mk.injEq]
  dsimp only at h k
  omega
def passK (x : PassD) : L2 := (x.ch, x.ln)
def passOf (v u : L2) : PassD := ⟨v.1, v.2, u.1, u.2, 1⟩
/-- one line each, in the order of the first edition -/
structure CrossOk (es fs : List StretchD) (L : List PassD) : Prop where
  sorted : L.Pairwise fun a b => ltL (passK a) (passK b)
  mem : ∀ x, x ∈ L ↔ ∃ p v u, asOf es p = some v ∧ asOf fs p = some u ∧ x = passOf v u
theorem crossOk_uniq {es fs : List StretchD} {L M : List PassD} (h : CrossOk es fs L) (k : CrossOk es fs M) : L = M :=
  sorted_uniq (lt := fun a b => ltL (passK a) (passK b)) (fun a => ltL_irr _) (fun a b => ltL_asy _ _) h.sorted k.sorted fun x => (h.mem x).trans (k.mem x).symm
open Classical in
noncomputable def crossS (es fs : List StretchD) : List PassD := if h : ∃ L, CrossOk es fs L then h.choose else []
theorem crossS_eq {es fs : List StretchD} {L : List PassD} (h : CrossOk es fs L) : crossS es fs = L := by
  unfold crossS
  rw [dif_pos ⟨L, h⟩]
  exact crossOk_uniq (Exists.choose_spec (p := CrossOk es fs) ⟨L, h⟩) h
def onP (p x : PassD) : Bool := decide (p.ch = x.ch) && (decide (p.ln + p.n = x.ln) && (decide (p.tc = x.tc) && decide (p.tl + p.n = x.tl)))
def stepQ (out : List PassD) (x : PassD) : List PassD := match out[out.length - 1]? with
  | some p => bif onP p x then out.set (out.length - 1) { p with n := p.n + 1 } else out ++ [x]
  | none => out ++ [x]
def mergeQ (L : List PassD) : List PassD := L.foldl stepQ []
theorem mergeQ_snoc (L : List PassD) (x : PassD) : mergeQ (L ++ [x]) = stepQ (mergeQ L) x := by simp [mergeQ]
theorem mergeQ_succ {L : List PassD} {k : Nat} {x : PassD} (h : L[k]? = some x) : mergeQ (L.take (k + 1)) = stepQ (mergeQ (L.take k)) x := by
  rw [List.take_add_one, h, Option.toList_some, mergeQ_snoc]
theorem stepQ_nil {out : List PassD} {x : PassD} (h : out = []) : stepQ out x = out ++ [x] := by subst h; rfl
theorem stepQ_on {out : List PassD} {p x : PassD} (hp : out[out.length - 1]? = some p) (h : onP p x = true) : stepQ out x = out.set (out.length - 1) { p with n := p.n + 1 } := by
  simp only [stepQ, hp, h, cond_true]
theorem stepQ_new {out : List PassD} {p x : PassD} (hp : out[out.length - 1]? = some p) (h : onP p x = false) : stepQ out x = out ++ [x] := by
  simp only [stepQ, hp, h, cond_false]
theorem stepQ_len (out : List PassD) (x : PassD) : (stepQ out x).length ≤ out.length + 1 := by
  unfold stepQ
  split
  · cases onP _ x <;> simp
  · simp
theorem mergeQ_len (L : List PassD) : (mergeQ L).length ≤ L.length := by
  unfold mergeQ
  suffices h : ∀ (L out : List PassD), (L.foldl stepQ out).length ≤ out.length + L.length by simpa using h L []
  intro L
  induction L with
  | nil => intro out; simp
  | cons x L ih =>
    intro out
    rw [List.foldl_cons]
    have h1 := ih (stepQ out x)
    have h2 := stepQ_len out x
    simp only [List.length_cons]
    omega
/-- numbers of a line that leads -/
structure PBd (m : Int) (x : PassD) : Prop where
  ch : 0 ≤ x.ch ∧ x.ch ≤ 999
  ln : 0 ≤ x.ln ∧ x.ln ≤ 999
  tc : 0 ≤ x.tc ∧ x.tc ≤ 999
  tl : 0 ≤ x.tl ∧ x.tl ≤ 999
  n : 1 ≤ x.n ∧ x.n ≤ m
theorem PBd.mono {m m' : Int} {x : PassD} (h : PBd m x) (hm : m ≤ m') : PBd m' x := ⟨h.ch, h.ln, h.tc, h.tl, h.n.1, by have := h.n.2; omega⟩
theorem mergeQ_bd {L : List PassD} (h : ∀ x ∈ L, PBd 1 x) : ∀ x ∈ mergeQ L, PBd (L.length + 1) x := by
  suffices k : ∀ k, k ≤ L.length → ∀ x ∈ mergeQ (L.take k), PBd (k + 1) x by
    have := k L.length (Nat.le_refl _)
    rwa [List.take_length] at this
  intro k
  induction k with
  | zero => intro _ x hx; simp [mergeQ] at hx
  | succ k ih =>
    intro hk x hx
    have hx0 : L[k]? = some L[k] := List.getElem?_eq_getElem (by omega)
    have hb := h L[k] (List.mem_of_getElem? hx0)
    have ih' := ih (by omega)
    have ap : ∀ z ∈ mergeQ (L.take k) ++ [L[k]], PBd ((k + 1 : Nat) + 1) z := fun z hz => by
      rcases List.mem_append.1 hz with hz | hz
      · exact (ih' z hz).mono (by omega)
      · rw [List.mem_singleton] at hz; subst hz; exact hb.mono (by omega)
    rw [mergeQ_succ hx0] at hx
    unfold stepQ at hx
    split at hx
    · rename_i p hp
      cases ho : onP p L[k] with
      | false => rw [ho] at hx; exact ap x hx
      | true =>
        rw [ho] at hx
        simp only [cond_true] at hx
        rcases List.mem_or_eq_of_mem_set hx with hx | rfl
        · exact (ih' x hx).mono (by omega)
        · have := ih' p (List.mem_of_getElem? hp)
          obtain ⟨a1, a2, a3, a4, a5⟩ := this
          exact ⟨a1, a2, a3, a4, by dsimp only; omega⟩
    · exact ap x hx
noncomputable def crossL (t : TextD) (e f : EditionD) : List PassD := bif decide (bothEr t e f = 0) then mergeQ (crossS e.ss f.ss) else []

/-! ### A list into which one is put -/
theorem insert_sorted {α : Type} {lt : α → α → Prop} (tr : ∀ {a b c}, lt a b → lt b c → lt a c) {L : List α} {x : α} {k : Nat} (hs : L.Pairwise lt) (h1 : ∀ y ∈ L.drop k, lt x y) (h2 : k = 0 ∨ ∃ y, L[k - 1]? = some y ∧ lt y x) : (L.take k ++ x :: L.drop k).Pairwise lt := by
  have hs' := hs
  rw [← List.take_append_drop k L, List.pairwise_append] at hs'
  obtain ⟨a1, a2, a3⟩ := hs'
  have h3 : ∀ y ∈ L.take k, lt y x := by
    intro y hy
    rcases h2 with h2 | ⟨z, hz, hzx⟩
    · subst h2; simp at hy
    · obtain ⟨i, hi⟩ := List.getElem?_of_mem hy
      rw [List.getElem?_take] at hi
      split at hi
      · rename_i hik
        by_cases e : i = k - 1
        · subst e; rw [hz] at hi; cases hi; exact hzx
        · have h4 := (List.getElem?_eq_some_iff.1 hi)
          have h5 := (List.getElem?_eq_some_iff.1 hz)
          have := List.pairwise_iff_getElem.1 hs i (k - 1) h4.1 h5.1 (by omega)
          rw [h4.2, h5.2] at this
          exact tr this hzx
      · cases hi
  rw [List.pairwise_append]
  refine ⟨a1, List.pairwise_cons.2 ⟨h1, a2⟩, fun a ha b hb => ?_⟩
  rcases List.mem_cons.1 hb with rfl | hb
  · exact h3 a ha
  · exact a3 a ha b hb
theorem shift_get {α : Type} {L : List α} {z : α} {k j : Nat} (hj : j < k) (hk : k ≤ L.length) : (L.take k ++ z :: L.drop k)[j]? = L[j]? := by
  rw [List.getElem?_append_left (by rw [List.length_take]; omega), List.getElem?_take, if_pos hj]
theorem shift_at {α : Type} {L : List α} {z : α} {k : Nat} (hk : k ≤ L.length) : (L.take k ++ z :: L.drop k)[k]? = some z := by
  rw [List.getElem?_append_right (by rw [List.length_take]; omega), List.length_take, Nat.min_eq_left hk, Nat.sub_self]; rfl
theorem shift_len {α : Type} {L : List α} {z : α} {k : Nat} (hk : k ≤ L.length) : (L.take k ++ z :: L.drop k).length = L.length + 1 := by
  rw [List.length_append, List.length_cons, List.length_take, List.length_drop]; omega
theorem shift_set {α : Type} {L : List α} {z x : α} {k : Nat} (hk : k ≤ L.length) : (L.take k ++ z :: L.drop k).set k x = L.take k ++ x :: L.drop k := by
  have h1 : (L.take k).length = k := by rw [List.length_take]; omega
  rw [List.set_append_right _ _ (by omega), h1, Nat.sub_self]; rfl
theorem shift_step {α : Type} {L : List α} {z y : α} {k : Nat} (hk : k < L.length) (hy : L[k]? = some y) : (L.take (k + 1) ++ z :: L.drop (k + 1)).set (k + 1) y = L.take k ++ y :: L.drop k := by
  rw [shift_set (by omega), List.take_add_one, hy, Option.toList_some, List.append_assoc]
  congr 1
  have e := List.getElem?_eq_some_iff.1 hy
  rw [List.drop_eq_getElem_cons hk, e.2]
  rfl
theorem shift_start {α : Type} (L : List α) (z : α) : L ++ [z] = L.take L.length ++ z :: L.drop L.length := by
  rw [List.take_length, List.drop_length]
theorem linesT_sorted (t : TextD) : (linesT t).Pairwise ltL := by
  unfold linesT
  rw [List.pairwise_flatten]
  constructor
  · intro l hl
    obtain ⟨k, hk, rfl⟩ := List.mem_mapIdx.1 hl
    rw [List.pairwise_iff_getElem]
    intro i j hi hj hij
    simp only [List.getElem_mapIdx]
    right
    exact ⟨rfl, by dsimp only; omega⟩
  · rw [List.pairwise_iff_getElem]
    intro i j hi hj hij x hx y hy
    simp only [List.getElem_mapIdx] at hx hy
    obtain ⟨a, ha, rfl⟩ := List.mem_mapIdx.1 hx
    obtain ⟨b, hb, rfl⟩ := List.mem_mapIdx.1 hy
    left
    dsimp only
    omega
theorem rows_map (t : TextD) (ss ss' : List StretchD) : rowsT t ss = (rowsT t ss').map fun r => rowOf ss (r.ch, r.ln) r.ws := by
  unfold rowsT
  rw [List.map_flatten, map_mapIdx']
  congr 2
  funext k c
  rw [map_mapIdx']
  rfl
theorem rows_other {t : TextD} {ss ss' : List StretchD} {i : Nat} {r : RowD} (h : (rowsT t ss)[i]? = some r) : (rowsT t ss')[i]? = some (rowOf ss' (r.ch, r.ln) r.ws) := by
  rw [rows_map t ss' ss, List.getElem?_map, h]; rfl
theorem rows_len (t : TextD) (ss ss' : List StretchD) : (rowsT t ss).length = (rowsT t ss').length := by
  rw [rows_map t ss ss', List.length_map]
theorem rows_inj {t : TextD} {ss : List StretchD} {i j : Nat} {r s : RowD} (hi : (rowsT t ss)[i]? = some r) (hj : (rowsT t ss)[j]? = some s) (h : ((r.ch, r.ln) : L2) = (s.ch, s.ln)) : i = j := by
  have hs := linesT_sorted t
  rw [← rows_lines t ss, List.pairwise_map, List.pairwise_iff_getElem] at hs
  obtain ⟨hi1, hi2⟩ := List.getElem?_eq_some_iff.1 hi
  obtain ⟨hj1, hj2⟩ := List.getElem?_eq_some_iff.1 hj
  rcases Nat.lt_trichotomy i j with h1 | h1 | h1
  · have := hs i j hi1 hj1 h1
    rw [hi2, hj2, h] at this
    exact absurd this (ltL_irr _)
  · exact h1
  · have := hs j i hj1 hi1 h1
    rw [hi2, hj2, h] at this
    exact absurd this (ltL_irr _)
theorem row_as {t : TextD} {ss : List StretchD} (he : ∀ s ∈ ss, SOk s) {r : RowD} (hr : r ∈ rowsT t ss) (h0 : r.au ≠ 0) : asOf ss (r.ch, r.ln) = some (r.au, r.nu) := by
  obtain ⟨h1, h2⟩ := rows_spec hr
  cases hv : asOf ss (r.ch, r.ln) with
  | none => rw [hv] at h1; exact absurd h1 h0
  | some v => rw [hv] at h1 h2; simp only [Option.getD_some] at h1 h2; rw [h1, h2]
def onePass (r1 r2 : RowD) : PassD := ⟨r1.au, r1.nu, r2.au, r2.nu, 1⟩
/-- what leads, of so many lines -/
structure CrossI (R1 R2 : List RowD) (L : List PassD) (i : Nat) : Prop where
  sorted : L.Pairwise fun a b => ltL (passK a) (passK b)
  mem : ∀ x, x ∈ L ↔ ∃ j r1 r2, j < i ∧ R1[j]? = some r1 ∧ R2[j]? = some r2 ∧ r1.au ≠ 0 ∧ r2.au ≠ 0 ∧ x = onePass r1 r2
  len : L.length ≤ i
theorem crossI_start (R1 R2 : List RowD) : CrossI R1 R2 [] 0 := ⟨List.Pairwise.nil, fun x => ⟨fun h => by simp at h, fun ⟨j, _, _, h, _⟩ => absurd h (Nat.not_lt_zero _)⟩, Nat.le_refl _⟩
theorem crossI_skip {R1 R2 : List RowD} {L : List PassD} {i : Nat} {r1 r2 : RowD} (h : CrossI R1 R2 L i) (h1 : R1[i]? = some r1) (h2 : R2[i]? = some r2) (h0 : r1.au = 0 ∨ r2.au = 0) : CrossI R1 R2 L (i + 1) := by
  refine ⟨h.sorted, fun x => (h.mem x).trans ⟨?_, ?_⟩, Nat.le_succ_of_le h.len⟩
  · rintro ⟨j, a, b, q1, q⟩; exact ⟨j, a, b, by omega, q⟩
  · rintro ⟨j, a, b, q1, q2, q3, q4, q5, q6⟩
    rcases Nat.eq_or_lt_of_le (Nat.le_of_lt_succ q1) with e | e
    · subst e
      rw [h1] at q2; rw [h2] at q3
      cases q2; cases q3
      rcases h0 with h0 | h0
      · exact absurd h0 q4
      · exact absurd h0 q5
    · exact ⟨j, a, b, e, q2, q3, q4, q5, q6⟩
theorem crossI_put {t : TextD} {es : List StretchD} (hS : Sound t es) {R2 : List RowD} {L : List PassD} {i k : Nat} {r1 r2 : RowD} (h : CrossI (rowsT t es) R2 L i) (h1 : (rowsT t es)[i]? = some r1) (h2 : R2[i]? = some r2) (n1 : r1.au ≠ 0) (n2 : r2.au ≠ 0)
    (hk : k ≤ L.length) (hd : ∀ y ∈ L.drop k, ltL (passK (onePass r1 r2)) (passK y)) (hp : k = 0 ∨ ∃ y, L[k - 1]? = some y ∧ ¬ ltL (passK (onePass r1 r2)) (passK y)) : CrossI (rowsT t es) R2 (L.take k ++ onePass r1 r2 :: L.drop k) (i + 1) := by
  have hne : ∀ y ∈ L, passK y ≠ passK (onePass r1 r2) := by
    intro y hy e
    obtain ⟨j, a, b, q1, q2, q3, q4, q5, rfl⟩ := (h.mem y).1 hy
    have a1 := row_as hS.ok (List.mem_of_getElem? q2) q4
    have a2 := row_as hS.ok (List.mem_of_getElem? h1) n1
    have e' : ((a.au, a.nu) : L2) = (r1.au, r1.nu) := e
    rw [e', ← a2] at a1
    have b1 := (back_iff hS.no).2 a2
    have b2 := (back_iff hS.no).2 (a1.trans a2)
    rw [b1] at b2
    have := rows_inj h1 q2 (Option.some.inj b2)
    omega
  refine ⟨insert_sorted (lt := fun a b => ltL (passK a) (passK b)) (fun a b => ltL_trans a b) h.sorted hd ?_, fun x => ?_, by rw [shift_len hk]; have := h.len; omega⟩
  · rcases hp with hp | ⟨y, hy, hn⟩
    · exact .inl hp
    · refine .inr ⟨y, hy, ?_⟩
      exact Classical.byContradiction fun hl => hne y (List.mem_of_getElem? hy) (ltL_tri hl hn)
  · have hmem : x ∈ L.take k ++ onePass r1 r2 :: L.drop k ↔ x = onePass r1 r2 ∨ x ∈ L := by
      conv => rhs; rw [← List.take_append_drop k L]
      simp only [List.mem_append, List.mem_cons]
      constructor
      · rintro (h | h | h)
        · exact .inr (.inl h)
        · exact .inl h
        · exact .inr (.inr h)
      · rintro (h | h | h)
        · exact .inr (.inl h)
        · exact .inl h
        · exact .inr (.inr h)
    rw [hmem, h.mem x]
    constructor
    · rintro (rfl | ⟨j, a, b, q1, q⟩)
      · exact ⟨i, r1, r2, by omega, h1, h2, n1, n2, rfl⟩
      · exact ⟨j, a, b, by omega, q⟩
    · rintro ⟨j, a, b, q1, q2, q3, q4, q5, q6⟩
      rcases Nat.eq_or_lt_of_le (Nat.le_of_lt_succ q1) with e | e
      · subst e
        rw [h1] at q2; rw [h2] at q3
        cases q2; cases q3
        exact .inl q6
      · exact .inr ⟨j, a, b, e, q2, q3, q4, q5, q6⟩
theorem crossI_end {t : TextD} {es fs : List StretchD} (hS : Sound t es) (hF : Sound t fs) {L : List PassD} {i : Nat} (h : CrossI (rowsT t es) (rowsT t fs) L i) (hi : (rowsT t es).length ≤ i) : CrossOk es fs L := by
  refine ⟨h.sorted, fun x => (h.mem x).trans ⟨?_, ?_⟩⟩
  · rintro ⟨j, a, b, q1, q2, q3, q4, q5, q6⟩
    have hb := rows_other (ss' := fs) q2
    rw [q3] at hb
    have hb' := Option.some.inj hb
    refine ⟨(a.ch, a.ln), (a.au, a.nu), (b.au, b.nu), row_as hS.ok (List.mem_of_getElem? q2) q4, ?_, q6⟩
    have := row_as hF.ok (List.mem_of_getElem? q3) q5
    rw [hb'] at this ⊢
    exact this
  · rintro ⟨p, v, u, hv, hu, rfl⟩
    obtain ⟨l, hw⟩ := asOf_words hS hv
    obtain ⟨j, hj⟩ := List.getElem?_of_mem (mem_rows.2 ⟨p, l, hw, rfl⟩ : rowOf es p l.length ∈ rowsT t es)
    have hj2 := rows_other (ss' := fs) hj
    have hlt := (List.getElem?_eq_some_iff.1 hj).1
    have p1 := asOf_pos hS.ok hv
    have p2 := asOf_pos hF.ok hu
    refine ⟨j, _, _, by omega, hj, hj2, ?_, ?_, ?_⟩
    · simp only [rowOf, hv, Option.getD_some]; omega
    · simp only [rowOf, hu, Option.getD_some]; omega
    · simp only [rowOf, hv, hu, Option.getD_some, onePass, passOf]
theorem onePass_bd {t : TextD} {es fs : List StretchD} (he : ∀ s ∈ es, SOk s) (hf : ∀ s ∈ fs, SOk s) {r1 r2 : RowD} (h1 : r1 ∈ rowsT t es) (h2 : r2 ∈ rowsT t fs) (n1 : r1.au ≠ 0) (n2 : r2.au ≠ 0) : PBd 1 (onePass r1 r2) := by
  have a1 := asOf_pos he (row_as he h1 n1)
  have a2 := asOf_pos hf (row_as hf h2 n2)
  exact ⟨by simp only [onePass]; omega, by simp only [onePass]; omega, by simp only [onePass]; omega, by simp only [onePass]; omega, by simp only [onePass]; omega⟩
theorem crossOk_bd {es fs : List StretchD} (he : ∀ s ∈ es, SOk s) (hf : ∀ s ∈ fs, SOk s) {L : List PassD} (h : CrossOk es fs L) : ∀ x ∈ L, PBd 1 x := fun x hx => by
  obtain ⟨p, v, u, hv, hu, rfl⟩ := (h.mem x).1 hx
  have a1 := asOf_pos he hv
  have a2 := asOf_pos hf hu
  exact ⟨by simp only [passOf]; omega, by simp only [passOf]; omega, by simp only [passOf]; omega, by simp only [passOf]; omega, by simp only [passOf]; omega⟩
theorem wordsOf_isSome {t : TextD} {p : L2} : (wordsOf t p).isSome = (inB p.1 0 ((t.length : Int) - 1) && inB p.2 0 ((nlines t p.1 : Int) - 1)) := by
  unfold wordsOf
  cases h1 : inB p.1 0 ((t.length : Int) - 1) with
  | false => rfl
  | true =>
    cases h2 : inB p.2 0 ((nlines t p.1 : Int) - 1) with
    | false => rfl
    | true =>
      simp only [Bool.and_self, cond_true]
      rw [inB_true] at h1 h2
      have hk : p.1.toNat < t.length := by omega
      have hn : nlines t p.1 = t[p.1.toNat].lines.length := nlines_get (k := p.1.toNat) (by omega) (List.getElem?_eq_getElem hk)
      rw [List.getElem?_eq_getElem hk, Option.bind_some, List.getElem?_eq_getElem (by omega)]
      rfl
/-! ### What is found first -/
theorem take_no {α : Type} {q : α → Bool} {l : List α} {k : Nat} {x : α} (hx : l[k]? = some x) (h : ∀ y ∈ l.take k, q y = false) (hq : q x = false) : ∀ y ∈ l.take (k + 1), q y = false := fun y hy => by
  rw [List.take_add_one, hx, Option.toList_some, List.mem_append, List.mem_singleton] at hy
  rcases hy with hy | rfl
  · exact h y hy
  · exact hq
theorem find_at {α : Type} {q : α → Bool} {l : List α} {k : Nat} {x : α} (hx : l[k]? = some x) (h : ∀ y ∈ l.take k, q y = false) (hq : q x = true) : l.find? q = some x := by
  obtain ⟨hk, e⟩ := List.getElem?_eq_some_iff.1 hx
  rw [← List.take_append_drop k l, List.find?_append, List.find?_eq_none.2 fun y hy => by rw [h y hy]; simp, Option.none_or, List.drop_eq_getElem_cons hk, e, List.find?_cons, hq]
theorem find_no {α : Type} {q : α → Bool} {l : List α} {k : Nat} (hk : l.length ≤ k) (h : ∀ y ∈ l.take k, q y = false) : l.find? q = none := by
  rw [List.take_of_length_le hk] at h
  exact List.find?_eq_none.2 fun y hy => by rw [h y hy]; simp
end Go.AB

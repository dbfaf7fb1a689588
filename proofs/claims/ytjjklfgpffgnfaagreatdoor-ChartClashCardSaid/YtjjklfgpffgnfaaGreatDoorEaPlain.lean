/-
 Charts in plain words: references, the places to which they lead, lines that lead from one edition to another one.
-/
import Derived.Test.YtjjklfgpffgnfaaGreatDoorDaPlain
namespace Go.AB
open Go Go.RowKit
open Go.AB.Enc (cells)
open Go.PB (bv ai PlaceD cy c6 cz)
structure dm where
 ch : Int
 ln : Int
 wd : Int
 deriving DecidableEq
structure ec where
 ch : Int
 ln : Int
 tc : Int
 tl : Int
 n : Int
 deriving DecidableEq
instance : Enc dm := ⟨fun x => [.v (.int .i64 x.ch), .v (.int .i64 x.ln), .v (.int .i64 x.wd)], 3, fun _ => rfl, fun m x c h => by
 simp only [List.mem_cons, List.not_mem_nil, or_false] at h; rcases h with rfl | rfl | rfl <;> exact .v, fun x c h => by
 simp only [List.mem_cons, List.not_mem_nil, or_false] at h; rcases h with rfl | rfl | rfl <;> rfl⟩
instance : Enc ec := ⟨fun x => [.v (.int .i64 x.ch), .v (.int .i64 x.ln), .v (.int .i64 x.tc), .v (.int .i64 x.tl), .v (.int .i64 x.n)], 5, fun _ => rfl, fun m x c h => by
 simp only [List.mem_cons, List.not_mem_nil, or_false] at h; rcases h with rfl | rfl | rfl | rfl | rfl <;> exact .v, fun x c h => by
 simp only [List.mem_cons, List.not_mem_nil, or_false] at h; rcases h with rfl | rfl | rfl | rfl | rfl <;> rfl⟩
instance : FlatV dm := ⟨fun x => [.int .i64 x.ch, .int .i64 x.ln, .int .i64 x.wd], fun _ => rfl⟩
instance : FlatV ec := ⟨fun x => [.int .i64 x.ch, .int .i64 x.ln, .int .i64 x.tc, .int .i64 x.tl, .int .i64 x.n], fun _ => rfl⟩

/-! ### The words of a line -/
def fq (t : ai) (p : L2) : Option (List ByteArray) := bif inB p.1 0 ((t.length : Int) - 1) && inB p.2 0 ((ia t p.1 : Int) - 1) then (t[p.1.toNat]?).bind (fun c => c.lines[p.2.toNat]?) else none
def gp (t : ai) (p : PlaceD) : Bool := match fq t (p.ch, p.ln) with
 | some l => inB p.wd 0 ((l.length : Int) - 1)
 | none => false
theorem yb {t : ai} {k n : Nat} {c : bv} {l : List ByteArray} (hc : t[k]? = some c) (hl : c.lines[n]? = some l) : fq t ((k : Int), (n : Int)) = some l := by
 have h1 := (List.getElem?_eq_some_iff.1 hc).1
 have h2 := (List.getElem?_eq_some_iff.1 hl).1
 have h3 : ia t (k : Int) = c.lines.length := ve rfl hc
 have e1 : inB (k : Int) 0 ((t.length : Int) - 1) = true := inB_true.2 (by omega)
 have e2 : inB (n : Int) 0 ((ia t (k : Int) : Int) - 1) = true := inB_true.2 (by omega)
 simp only [fq, e1, e2, Bool.and_self, cond_true, Int.toNat_natCast, hc, Option.bind_some, hl]
theorem r8 {t : ai} {p : L2} {l : List ByteArray} (h : fq t p = some l) : ∃ (k n : Nat) (c : bv), p = ((k : Int), (n : Int)) ∧ t[k]? = some c ∧ c.lines[n]? = some l := by
 unfold fq at h
 cases h1 : inB p.1 0 ((t.length : Int) - 1) with
 | false => rw [h1] at h; cases h
 | true =>
  cases h2 : inB p.2 0 ((ia t p.1 : Int) - 1) with
  | false => rw [h1, h2] at h; cases h
  | true =>
   rw [h1, h2] at h
   simp only [Bool.and_self, cond_true] at h
   rw [inB_true] at h1 h2
   cases hc : t[p.1.toNat]? with
   | none => rw [hc] at h; cases h
   | some c =>
    rw [hc, Option.bind_some] at h
    exact ⟨p.1.toNat, p.2.toNat, c, by rw [Prod.ext_iff]; constructor <;> (dsimp only; omega), hc, h⟩
theorem placeB_true {t : ai} {p : PlaceD} : gp t p = true ↔ ∃ l, fq t (p.ch, p.ln) = some l ∧ 0 ≤ p.wd ∧ p.wd < l.length := by
 unfold gp
 cases h : fq t (p.ch, p.ln) with
 | none => simp
 | some l =>
  simp only [inB_true, Option.some.injEq]
  constructor
  ·exact fun h => ⟨l, rfl, by omega, by omega⟩
  ·rintro ⟨l', rfl, h1, h2⟩; omega
theorem od {t : ai} (ht : ct t = true) {p : L2} {l : List ByteArray} (h : fq t p = some l) : 0 ≤ p.1 ∧ p.1 ≤ 5 ∧ 0 ≤ p.2 ∧ p.2 ≤ 9 ∧ 1 ≤ l.length ∧ l.length ≤ 10 := by
 obtain ⟨k, n, c, rfl, hc, hl⟩ := r8 h
 obtain ⟨h1, h2, h3⟩ := ml ht
 obtain ⟨h4, h5, h6⟩ := h3 c (List.mem_of_getElem? hc)
 have h7 := h6 l (List.mem_of_getElem? hl)
 have h8 := (List.getElem?_eq_some_iff.1 hc).1
 have h9 := (List.getElem?_eq_some_iff.1 hl).1
 dsimp only
 omega
theorem mem_rows {t : ai} {ss : List StretchD} {r : nr} : r ∈ ja t ss ↔ ∃ p l, fq t p = some l ∧ r = qt ss p l.length := by
 unfold ja
 constructor
 ·intro h
  obtain ⟨l, hl, hr⟩ := List.mem_flatten.1 h
  obtain ⟨k, hk, rfl⟩ := List.mem_mapIdx.1 hl
  obtain ⟨n, hn, rfl⟩ := List.mem_mapIdx.1 hr
  exact ⟨_, _, yb (List.getElem?_eq_getElem hk) (List.getElem?_eq_getElem hn), rfl⟩
 ·rintro ⟨p, l, hw, rfl⟩
  obtain ⟨k, n, c, rfl, hc, hl⟩ := r8 hw
  have h8 := (List.getElem?_eq_some_iff.1 hc)
  have h9 := (List.getElem?_eq_some_iff.1 hl)
  refine List.mem_flatten.2 ⟨_, List.mem_mapIdx.2 ⟨k, h8.1, rfl⟩, List.mem_mapIdx.2 ⟨n, by rw [h8.2]; exact h9.1, ?_⟩⟩
  congr 2
  simp only [h8.2, h9.2]
theorem mem_lines {t : ai} {p : L2} : p ∈ d9 t ↔ ∃ l, fq t p = some l := by
 rw [← u4 t [], List.mem_map]
 constructor
 ·rintro ⟨r, hr, rfl⟩
  obtain ⟨q, l, hw, rfl⟩ := mem_rows.1 hr
  exact ⟨l, hw⟩
 ·rintro ⟨l, hw⟩
  exact ⟨_, mem_rows.2 ⟨p, l, hw, rfl⟩, rfl⟩
theorem ua {t : ai} {ss : List StretchD} (h : Sound t ss) {p v : L2} (hv : ax ss p = some v) : ∃ l, fq t p = some l := by
 obtain ⟨r, hr, h1, _⟩ := uc8 h hv
 obtain ⟨q, l, hw, rfl⟩ := mem_rows.1 hr
 exact ⟨l, h1 ▸ hw⟩

/-! ### References -/
noncomputable def eu (t : ai) (e : av) (p : PlaceD) : Int := bif decide (bz t e = 0) then (bif gp t p then (bif (ax e.ss (p.ch, p.ln)).isSome then 0 else 6) else 12) else bz t e
noncomputable def ix (t : ai) (e : av) (p : PlaceD) : dm := bif decide (eu t e p = 0) then ⟨((ax e.ss (p.ch, p.ln)).getD (0, 0)).1, ((ax e.ss (p.ch, p.ln)).getD (0, 0)).2, p.wd + 1⟩ else ⟨0, 0, 0⟩
def gx (r : dm) : Bool := inB r.ch 1 999 && (inB r.ln 1 999 && inB r.wd 1 999)
theorem y7 (r : dm) : gx r = jp 1 999 [r.ch, r.ln, r.wd] := by
 unfold gx
 rw [← m5, ← m5, ← m5]; simp [jp]
/-! ### Where they lead -/
def iv (t : ai) (ss : List StretchD) (r : dm) : Option PlaceD := match cn ss (r.ch, r.ln) with
 | none => none
 | some p => bif decide ((((fq t p).getD []).length : Int) < r.wd) then none else some ⟨p.1, p.2, r.wd - 1⟩
theorem uay {t : ai} {ss : List StretchD} (hS : Sound t ss) {r : dm} (hr : gx r = true) {p : PlaceD} (h : iv t ss r = some p) : gp t p = true ∧ ax ss (p.ch, p.ln) = some (r.ch, r.ln) ∧ p.wd + 1 = r.wd := by
 simp only [gx, Bool.and_eq_true, inB_true] at hr
 unfold iv at h
 cases hb : cn ss (r.ch, r.ln) with
 | none => rw [hb] at h; cases h
 | some q =>
  rw [hb] at h
  have hv := (kd hS.no).1 hb
  obtain ⟨l, hw⟩ := ua hS hv
  simp only [hw, Option.getD_some] at h
  by_cases hl : (l.length : Int) < r.wd
  ·rw [decide_eq_true hl] at h; cases h
  ·rw [decide_eq_false hl] at h
   simp only [cond_false, Option.some.injEq] at h
   subst h
   exact ⟨placeB_true.2 ⟨l, hw, by dsimp only; omega, by dsimp only; omega⟩, hv, by dsimp only; omega⟩
def j8 (t : ai) (ss : List StretchD) (r : dm) : Int := bif gx r then (bif (iv t ss r).isSome then 0 else 6) else 2
noncomputable def jc (t : ai) (e : av) (r : dm) : Int := bif decide (bz t e = 0) then j8 t e.ss r else bz t e
noncomputable def jo (t : ai) (e : av) (r : dm) : PlaceD := bif decide (jc t e r = 0) then (iv t e.ss r).getD ⟨0, 0, 0⟩ else ⟨0, 0, 0⟩

/-! ### Two editions -/
noncomputable def gh (t : ai) (e f : av) : Int := bif decide (cw t e = 0) then (bif decide (cw t f = 0) then (bif decide (bz t e = 0) then bz t f else bz t e) else cw t f) else cw t e
theorem xk {t : ai} {e f : av} (h : gh t e f = 0) : bz t e = 0 ∧ bz t f = 0 := by
 unfold gh at h
 by_cases h1 : cw t e = 0
 ·by_cases h2 : cw t f = 0
  ·by_cases h3 : bz t e = 0
   ·simp only [h1, h2, h3, decide_true, cond_true] at h; exact ⟨h3, h⟩
   ·simp only [h1, h2, h3, decide_true, decide_false, cond_true, cond_false] at h
  ·simp only [h1, h2, decide_true, decide_false, cond_true, cond_false] at h
 ·simp only [h1, decide_false, cond_false] at h
noncomputable def gw (t : ai) (e f : av) (r : dm) : Int := bif decide (gh t e f = 0) then (bif decide (j8 t e.ss r = 0) then eu t f ((iv t e.ss r).getD ⟨0, 0, 0⟩) else j8 t e.ss r) else gh t e f
noncomputable def gl (t : ai) (e f : av) (r : dm) : dm := bif decide (gw t e f r = 0) then ix t f ((iv t e.ss r).getD ⟨0, 0, 0⟩) else ⟨0, 0, 0⟩

/-! ### Lines in order -/
theorem yp {α : Type} {lt : α → α → Prop} (irr : ∀ a, ¬ lt a a) (asy : ∀ a b, lt a b → ¬ lt b a) : ∀ {l m : List α}, l.Pairwise lt → m.Pairwise lt → (∀ x, x ∈ l ↔ x ∈ m) → l = m
 | [], m, _, _, h => by
  cases m with
  | nil => rfl
  | cons b m => exact absurd ((h b).2 (List.mem_cons_self ..)) (by simp)
 | a :: l, m, hl, hm, h => by
  cases m with
  | nil => exact absurd ((h a).1 (List.mem_cons_self ..)) (by simp)
  | cons b m =>
   rw [List.pairwise_cons] at hl hm
   have hab : a = b := by
    rcases List.mem_cons.1 ((h a).1 (List.mem_cons_self ..)) with h1 | h1
    ·exact h1
    ·rcases List.mem_cons.1 ((h b).2 (List.mem_cons_self ..)) with h2 | h2
     ·exact h2.symm
     ·exact absurd (hl.1 b h2) (asy _ _ (hm.1 a h1))
   subst hab
   congr 1
   refine yp irr asy hl.2 hm.2 fun x => ⟨fun hx => ?_, fun hx => ?_⟩
   ·rcases List.mem_cons.1 ((h x).1 (List.mem_cons_of_mem _ hx)) with h1 | h1
    ·subst h1; exact absurd (hl.1 x hx) (irr x)
    ·exact h1
   ·rcases List.mem_cons.1 ((h x).2 (List.mem_cons_of_mem _ hx)) with h1 | h1
    ·subst h1; exact absurd (hm.1 x hx) (irr x)
    ·exact h1
def ltL (a b : L2) : Prop := a.1 < b.1 ∨ a.1 = b.1 ∧ a.2 < b.2
instance (a b : L2) : Decidable (ltL a b) := inferInstanceAs (Decidable (_ ∨ _))
theorem uao (a : L2) : ¬ ltL a a := by unfold ltL; omega
theorem uhl (a b : L2) (h : ltL a b) : ¬ ltL b a := by unfold ltL at h ⊢; omega
theorem uhk {a b c : L2} (h : ltL a b) (k : ltL b c) : ltL a c := by unfold ltL at h k ⊢; omega
theorem uhj {a b : L2} (h : ¬ ltL a b) (k : ¬ ltL b a) : a = b := by
 obtain ⟨a1, a2⟩ := a
 obtain ⟨b1, b2⟩ := b
 unfold ltL at h k
 simp only [Prod.mk.injEq]
 dsimp only at h k
 omega
def pv (x : ec) : L2 := (x.ch, x.ln)
def jb (v u : L2) : ec := ⟨v.1, v.2, u.1, u.2, 1⟩
/-- one line each, in the order of the first edition -/
structure oa (es fs : List StretchD) (L : List ec) : Prop where
 sorted : L.Pairwise fun a b => ltL (pv a) (pv b)
 mem : ∀ x, x ∈ L ↔ ∃ p v u, ax es p = some v ∧ ax fs p = some u ∧ x = jb v u
theorem ukd {es fs : List StretchD} {L M : List ec} (h : oa es fs L) (k : oa es fs M) : L = M :=
 yp (lt := fun a b => ltL (pv a) (pv b)) (fun a => uao _) (fun a b => uhl _ _) h.sorted k.sorted fun x => (h.mem x).trans (k.mem x).symm
open Classical in
noncomputable def tq (es fs : List StretchD) : List ec := if h : ∃ L, oa es fs L then h.choose else []
theorem ucd {es fs : List StretchD} {L : List ec} (h : oa es fs L) : tq es fs = L := by
 unfold tq
 rw [dif_pos ⟨L, h⟩]
 exact ukd (Exists.choose_spec (p := oa es fs) ⟨L, h⟩) h
def onP (p x : ec) : Bool := decide (p.ch = x.ch) && (decide (p.ln + p.n = x.ln) && (decide (p.tc = x.tc) && decide (p.tl + p.n = x.tl)))
def jx (out : List ec) (x : ec) : List ec := match out[out.length - 1]? with
 | some p => bif onP p x then out.set (out.length - 1) { p with n := p.n + 1 } else out ++ [x]
 | none => out ++ [x]
def gq (L : List ec) : List ec := L.foldl jx []
theorem uha (L : List ec) (x : ec) : gq (L ++ [x]) = jx (gq L) x := by simp [gq]
theorem sy {L : List ec} {k : Nat} {x : ec} (h : L[k]? = some x) : gq (L.take (k + 1)) = jx (gq (L.take k)) x := by
 rw [List.take_add_one, h, Option.toList_some, uha]
theorem ueq {out : List ec} {x : ec} (h : out = []) : jx out x = out ++ [x] := by subst h; rfl
theorem yn {out : List ec} {p x : ec} (hp : out[out.length - 1]? = some p) (h : onP p x = true) : jx out x = out.set (out.length - 1) { p with n := p.n + 1 } := by
 simp only [jx, hp, h, cond_true]
theorem um {out : List ec} {p x : ec} (hp : out[out.length - 1]? = some p) (h : onP p x = false) : jx out x = out ++ [x] := by
 simp only [jx, hp, h, cond_false]
theorem uer (out : List ec) (x : ec) : (jx out x).length ≤ out.length + 1 := by
 unfold jx
 split
 ·cases onP _ x <;> simp
 ·simp
theorem uhb (L : List ec) : (gq L).length ≤ L.length := by
 unfold gq
 suffices h : ∀ (L out : List ec), (L.foldl jx out).length ≤ out.length + L.length by simpa using h L []
 intro L
 induction L with
 | nil => intro out; simp
 | cons x L ih =>
  intro out
  rw [List.foldl_cons]
  have h1 := ih (jx out x)
  have h2 := uer out x
  simp only [List.length_cons]
  omega
/-- numbers of a line that leads -/
structure PBd (m : Int) (x : ec) : Prop where
 ch : 0 ≤ x.ch ∧ x.ch ≤ 999
 ln : 0 ≤ x.ln ∧ x.ln ≤ 999
 tc : 0 ≤ x.tc ∧ x.tc ≤ 999
 tl : 0 ≤ x.tl ∧ x.tl ≤ 999
 n : 1 ≤ x.n ∧ x.n ≤ m
theorem PBd.mono {m m' : Int} {x : ec} (h : PBd m x) (hm : m ≤ m') : PBd m' x := ⟨h.ch, h.ln, h.tc, h.tl, h.n.1, by have := h.n.2; omega⟩
theorem uhc {L : List ec} (h : ∀ x ∈ L, PBd 1 x) : ∀ x ∈ gq L, PBd (L.length + 1) x := by
 suffices k : ∀ k, k ≤ L.length → ∀ x ∈ gq (L.take k), PBd (k + 1) x by
  have := k L.length (Nat.le_refl _)
  rwa [List.take_length] at this
 intro k
 induction k with
 | zero => intro _ x hx; simp [gq] at hx
 | succ k ih =>
  intro hk x hx
  have hx0 : L[k]? = some L[k] := List.getElem?_eq_getElem (by omega)
  have hb := h L[k] (List.mem_of_getElem? hx0)
  have ih' := ih (by omega)
  have ap : ∀ z ∈ gq (L.take k) ++ [L[k]], PBd ((k + 1 : Nat) + 1) z := fun z hz => by
   rcases List.mem_append.1 hz with hz | hz
   ·exact (ih' z hz).mono (by omega)
   ·rw [List.mem_singleton] at hz; subst hz; exact hb.mono (by omega)
  rw [sy hx0] at hx
  unfold jx at hx
  split at hx
  ·rename_i p hp
   cases ho : onP p L[k] with
   | false => rw [ho] at hx; exact ap x hx
   | true =>
    rw [ho] at hx
    simp only [cond_true] at hx
    rcases List.mem_or_eq_of_mem_set hx with hx | rfl
    ·exact (ih' x hx).mono (by omega)
    ·have := ih' p (List.mem_of_getElem? hp)
     obtain ⟨a1, a2, a3, a4, a5⟩ := this
     exact ⟨a1, a2, a3, a4, by dsimp only; omega⟩
  ·exact ap x hx
noncomputable def nl (t : ai) (e f : av) : List ec := bif decide (gh t e f = 0) then gq (tq e.ss f.ss) else []

/-! ### A list into which one is put -/
theorem uhm (t : ai) : (d9 t).Pairwise ltL := by
 unfold d9
 rw [List.pairwise_flatten]
 constructor
 ·intro l hl
  obtain ⟨k, hk, rfl⟩ := List.mem_mapIdx.1 hl
  rw [List.pairwise_iff_getElem]
  intro i j hi hj hij
  simp only [List.getElem_mapIdx]
  right
  exact ⟨rfl, by dsimp only; omega⟩
 ·rw [List.pairwise_iff_getElem]
  intro i j hi hj hij x hx y hy
  simp only [List.getElem_mapIdx] at hx hy
  obtain ⟨a, ha, rfl⟩ := List.mem_mapIdx.1 hx
  obtain ⟨b, hb, rfl⟩ := List.mem_mapIdx.1 hy
  left
  dsimp only
  omega
theorem ukf {es fs : List StretchD} (he : ∀ s ∈ es, SOk s) (hf : ∀ s ∈ fs, SOk s) {L : List ec} (h : oa es fs L) : ∀ x ∈ L, PBd 1 x := fun x hx => by
 obtain ⟨p, v, u, hv, hu, rfl⟩ := (h.mem x).1 hx
 have a1 := l3 he hv
 have a2 := l3 hf hu
 exact ⟨by simp only [jb]; omega, by simp only [jb]; omega, by simp only [jb]; omega, by simp only [jb]; omega, by simp only [jb]; omega⟩
theorem ya {t : ai} {p : L2} : (fq t p).isSome = (inB p.1 0 ((t.length : Int) - 1) && inB p.2 0 ((ia t p.1 : Int) - 1)) := by
 unfold fq
 cases h1 : inB p.1 0 ((t.length : Int) - 1) with
 | false => rfl
 | true =>
  cases h2 : inB p.2 0 ((ia t p.1 : Int) - 1) with
  | false => rfl
  | true =>
   simp only [Bool.and_self, cond_true]
   rw [inB_true] at h1 h2
   have hk : p.1.toNat < t.length := by omega
   have hn : ia t p.1 = t[p.1.toNat].lines.length := ve (k := p.1.toNat) (by omega) (List.getElem?_eq_getElem hk)
   rw [List.getElem?_eq_getElem hk, Option.bind_some, List.getElem?_eq_getElem (by omega)]
   rfl
/-! ### What is found first -/
theorem ueg {α : Type} {q : α → Bool} {l : List α} {k : Nat} {x : α} (hx : l[k]? = some x) (h : ∀ y ∈ l.take k, q y = false) (hq : q x = false) : ∀ y ∈ l.take (k + 1), q y = false := fun y hy => by
 rw [List.take_add_one, hx, Option.toList_some, List.mem_append, List.mem_singleton] at hy
 rcases hy with hy | rfl
 ·exact h y hy
 ·exact hq
end Go.AB

/-
 The data of charts: stretches, editions, rows; what is computed of them.
-/
import Derived.Test.YtjjklfgpffgnfaaGreatDoorAdData
import Derived.Test.YtjjklfgpffgnfaaGreatDoorEngB
namespace Go.AB
open Go Go.RowKit
open Go.AB.Enc (cells)
open Go.PB (bv ai PlaceD cy c6 cz)
structure StretchD where
 ch : Int
 fr : Int
 tt : Int
 au : Int
 fi : Int
 deriving DecidableEq
structure av where
 id : Int
 ss : List StretchD
 deriving DecidableEq
structure nr where
 ch : Int
 ln : Int
 au : Int
 nu : Int
 ws : Int
 deriving DecidableEq
instance : Enc StretchD := ⟨fun x => [.v (.int .i64 x.ch), .v (.int .i64 x.fr), .v (.int .i64 x.tt), .v (.int .i64 x.au), .v (.int .i64 x.fi)], 5, fun _ => rfl, fun m x c h => by
 simp only [List.mem_cons, List.not_mem_nil, or_false] at h; rcases h with rfl | rfl | rfl | rfl | rfl <;> exact .v, fun x c h => by
 simp only [List.mem_cons, List.not_mem_nil, or_false] at h; rcases h with rfl | rfl | rfl | rfl | rfl <;> rfl⟩
instance : Enc av := ⟨fun x => [.v (.int .i64 x.id), lst x.ss], 2, fun _ => rfl, fun m x c h => by
 simp only [List.mem_cons, List.not_mem_nil, or_false] at h; rcases h with rfl | rfl; exact .v; exact bh m _, fun x c h => by
 simp only [List.mem_cons, List.not_mem_nil, or_false] at h; rcases h with rfl | rfl <;> rfl⟩

/-- numbers of an edition that is read out of memory -/
structure SFit (s : StretchD) : Prop where
 ch : I64 s.ch
 fr : I64 s.fr
 tt : I64 s.tt
 au : I64 s.au
 fi : I64 s.fi
structure EFit (e : av) : Prop where
 id : I64 e.id
 len : e.ss.length ≤ 9223372036854775807
 ss : ∀ s ∈ e.ss, SFit s
theorem uek {s : StretchD} (h : ∀ c ∈ cells s, C.fit c) : SFit s :=
 ⟨oy (h _ (by simp [cells])), oy (h _ (by simp [cells])), oy (h _ (by simp [cells])), oy (h _ (by simp [cells])), oy (h _ (by simp [cells]))⟩
theorem uju {e : av} (h : ∀ c ∈ cells e, C.fit c) : EFit e := by
 have h1 := h _ (List.mem_cons_self ..)
 have h2 := h _ (List.mem_cons_of_mem _ (List.mem_cons_self ..))
 obtain ⟨h3, h4⟩ := fit_lst.1 h2
 exact ⟨oy h1, h3, fun s hs => uek (h4 s hs)⟩
theorem ujv {e : av} (h : (val e).fit) : EFit e := uju (fit_agg.1 h)
/-! ### What the functions compute -/
/-- so many lines has a chapter -/
def ia (t : ai) (c : Int) : Nat := match t[c.toNat]? with
 | some x => x.lines.length
 | none => 0
def sB1 (t : ai) (s : StretchD) : Bool := inB s.ch 0 ((t.length : Int) - 1)
def sB2 (t : ai) (s : StretchD) : Bool := inB s.fr 0 ((ia t s.ch : Int) - 1) && inB s.tt (s.fr + 1) (ia t s.ch)
def sB3 (s : StretchD) : Bool := inB s.au 1 999 && inB s.fi 1 (999 - (s.tt - s.fr) + 1)
def g9 (t : ai) (s : StretchD) : Bool := sB1 t s && (sB2 t s && sB3 s)
def i5 (t : ai) (e : av) : Bool := inB e.id 0 9999 && (decide (e.ss.length ≤ 12) && e.ss.all (g9 t))
/-- the error of a text -/
def g5 (t : ai) : Int := bif ct t then 0 else 10
/-- .. and an edition -/
def cw (t : ai) (e : av) : Int := bif ct t then (bif i5 t e then 0 else 20) else 10
theorem tz {t : ai} {e : av} (h : cw t e = 0) : ct t = true ∧ i5 t e = true := by
 unfold cw at h
 cases h1 : ct t <;> cases h2 : i5 t e <;> simp_all
def k0 (a m b n : Int) : Bool := decide (a < b + n) && decide (b < a + m)
def i1 (a b : StretchD) : Bool := (decide (a.ch = b.ch) && k0 a.fr (a.tt - a.fr) b.fr (b.tt - b.fr)) || (decide (a.au = b.au) && k0 a.fi (a.tt - a.fr) b.fi (b.tt - b.fr))
/-- what is so of a valid stretch -/
structure SOk (s : StretchD) : Prop where
 fr : 0 ≤ s.fr
 lt : s.fr < s.tt
 tt : s.tt ≤ 10
 ch : 0 ≤ s.ch ∧ s.ch ≤ 5
 au : 1 ≤ s.au ∧ s.au ≤ 999
 fi : 1 ≤ s.fi ∧ s.fi + (s.tt - s.fr) ≤ 1000
theorem ml {t : ai} (h : ct t = true) : 1 ≤ t.length ∧ t.length ≤ 6 ∧ ∀ c ∈ t, 1 ≤ c.lines.length ∧ c.lines.length ≤ 10 ∧ ∀ l ∈ c.lines, 1 ≤ l.length ∧ l.length ≤ 10 := by
 simp only [ct, Bool.and_eq_true, inB_true, List.all_eq_true, jj, km] at h
 refine ⟨by omega, by omega, fun c hc => ?_⟩
 have := h.1.2 c hc
 refine ⟨by omega, by omega, fun l hl => ?_⟩
 have := this.2 l hl
 omega
theorem ve {t : ai} {c : Int} {k : Nat} {x : bv} (hc : c = (k : Int)) (hx : t[k]? = some x) : ia t c = x.lines.length := by
 subst hc; simp [ia, hx]
theorem zy {t : ai} (h : ct t = true) (c : Int) : ia t c ≤ 10 := by
 unfold ia
 split
 ·rename_i x hx
  have := (ml h).2.2 x (List.mem_of_getElem? hx)
  omega
 ·omega
theorem yl {t : ai} {s : StretchD} (h : ct t = true) (hs : g9 t s = true) : SOk s := by
 simp only [g9, sB1, sB2, sB3, Bool.and_eq_true, inB_true] at hs
 have h1 := zy h s.ch
 have h2 := ml h
 exact ⟨by omega, by omega, by omega, by omega, by omega, by omega⟩
theorem ubx {t : ai} {e : av} (h : ct t = true) (he : i5 t e = true) : e.ss.length ≤ 12 ∧ ∀ s ∈ e.ss, SOk s := by
 simp only [i5, Bool.and_eq_true, decide_eq_true_eq, List.all_eq_true] at he
 exact ⟨he.2.1, fun s hs => yl h (he.2.2 s hs)⟩
/-- two stretches clash -/
def jh (ss : List StretchD) (a b : Nat) : Prop := a < b ∧ ∃ x y, ss[a]? = some x ∧ ss[b]? = some y ∧ i1 x y = true
/-- the first two that clash -/
def lf (ss : List StretchD) : Option (Nat × Nat) → Prop
 | none => ∀ a b, ¬ jh ss a b
 | some p => jh ss p.1 p.2 ∧ ∀ c d, jh ss c d → p.1 < c ∨ (p.1 = c ∧ p.2 ≤ d)
theorem ui9 {ss : List StretchD} {o o' : Option (Nat × Nat)} (h : lf ss o) (h' : lf ss o') : o = o' := by
 cases o with
 | none => cases o' with
  | none => rfl
  | some p => exact absurd h'.1 (h _ _)
 | some p => cases o' with
  | none => exact absurd h.1 (h' _ _)
  | some q =>
   have h1 := h.2 _ _ h'.1
   have h2 := h'.2 _ _ h.1
   congr 1
   exact Prod.ext (by omega) (by omega)
open Classical in
noncomputable def ef (ss : List StretchD) : Option (Nat × Nat) := if h : ∃ o, lf ss o then h.choose else none
theorem rm {ss : List StretchD} {o : Option (Nat × Nat)} (h : lf ss o) : ef ss = o := by
 unfold ef
 rw [dif_pos ⟨o, h⟩]
 exact ui9 (Exists.choose_spec (p := lf ss) ⟨o, h⟩) h
noncomputable def clA (ss : List StretchD) : Int := match ef ss with | some p => p.1 | none => 0
noncomputable def clB (ss : List StretchD) : Int := match ef ss with | some p => p.2 | none => 0
/-- .. what clashes, with the error -/
noncomputable def jr (t : ai) (e : av) : Int := bif decide (cw t e = 0) then (bif (ef e.ss).isSome then 0 else 6) else cw t e
noncomputable def mh (t : ai) (e : av) : Int := bif decide (cw t e = 0) then clA e.ss else 0
noncomputable def mg (t : ai) (e : av) : Int := bif decide (cw t e = 0) then clB e.ss else 0
/-- the error of a text and a sound edition -/
noncomputable def bz (t : ai) (e : av) : Int := bif decide (cw t e = 0) then (bif (ef e.ss).isSome then 8 else 0) else cw t e
end Go.AB

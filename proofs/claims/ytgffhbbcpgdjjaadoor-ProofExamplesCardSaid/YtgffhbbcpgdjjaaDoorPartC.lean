/-
  What the walks through the program rest on: values, states, steps, calls (PsExamples, PpAdd, PlTruth, PqRest, AbTwin, AbCut, RaStd, OpenE, AbRem, AbBits, QaRef, QbRef, QcRef, RbSides, QdRef, QeRef, KxBefore, QfRef, QgRef, QhRef, QiRef, QjRef, QkRef, PmMore, QlPlain, AbZero, AbGrow, AbCutN, QmRef, RhProves, AbInv, AbMixD, AbInvD, RcAny, AbNew, AbEntry, HdKeys, RcAdd, RiWithout, AbFact).
-/
import Derived.Test.YtgffhbbcpgdjjaaDoorPartB
import Derived.Shelf.SlicesE.DeleteFunc
import Derived.Deep.Slices
import Derived.Lib.SmallJoins
import Derived.Carry
import Derived.ProofKit
import Derived.OpenShut
import Derived.WideKeyEntry
import Derived.Test.YtgffhbbcpgdjjaaDoorPartA
namespace Go.AB
open Go Go.RowKit
open Go.AB.Enc (cells)
open Go.PB (aq ah PlaceD av ax aw bg am af cb ba)
/-- as much as can be on a page, if nothing is lost by it -/
theorem Net.pick_alone {N : Net} {R C : Nat → Int} {j : Nat} (h0 : 0 ≤ N.alone R C j) (h : N.most R C ≤ N.alone R C j + N.most (N.lessR R j (N.alone R C j)) (d9 C j)) : N.pick R C j = N.alone R C j :=
 Net.pick_eq ⟨h0, Int.le_refl _, h, fun m h1 h2 => by omega⟩
def il : ByteArray := ⟨#[116, 104, 101]⟩
def er : ByteArray := ⟨#[115, 101, 97]⟩
def xIs : ByteArray := ⟨#[105, 115]⟩
def im : ByteArray := ⟨#[111, 108, 100]⟩
def l6 : ByteArray := ⟨#[97, 110, 100]⟩
def nm : ah := [⟨7, [[il, er, xIs, im], [im, il, er]]⟩, ⟨3, [[er, l6, er]]⟩]
def exPg : List am := [⟨0, 0, 0, 0, [⟨0, 0, 0⟩], [⟨0, 0, 0⟩, ⟨0, 0, 3⟩]⟩, ⟨1, 2, 0, -1, [⟨0, 1, 1⟩], []⟩]
def exPr : af := ⟨nm, [⟨1, 50⟩, ⟨2, 0⟩], [⟨3, 60⟩], exPg⟩
def iq : af := ⟨nm, [⟨1, 0⟩, ⟨2, 0⟩], [⟨3, 60⟩], exPg⟩
def qd : af := ⟨nm, [⟨1, 50⟩, ⟨2, 0⟩], [⟨3, 60⟩], [⟨0, 0, 0, 0, [⟨0, 0, 0⟩], [⟨0, 0, 0⟩, ⟨0, 0, 3⟩]⟩, ⟨0, 2, 0, -1, [⟨0, 1, 1⟩], []⟩]⟩
def um : af := ⟨[], [⟨1, 50⟩, ⟨2, 0⟩], [⟨3, 60⟩], exPg⟩
theorem su : ey exPr (ck exPr) = 0 := by decide +kernel
theorem xp_words : n8 exPr 1 = 6 ∧ dx exPr 1 = 0 ∧ n8 exPr 0 = 4 ∧ dx exPr 0 = 0 := ⟨by decide +kernel, by decide +kernel, by decide +kernel, by decide +kernel⟩
theorem xp_found : qb exPr 0 = [⟨0, 0, 0⟩, ⟨0, 0, 3⟩] ∧ qg exPr 0 = [⟨0, 0, 0⟩] := ⟨by decide +kernel, by decide +kernel⟩
theorem xp_guess : mp exPr 0 = ⟨2, 2⟩ ∧ kf exPr 0 = 0 := ⟨by decide +kernel, by decide +kernel⟩
theorem xp_remain : og exPr 1 = ⟨0, 1⟩ ∧ ey exPr (dx exPr 1) = 0 ∧ og exPr 0 = ⟨0, 1⟩ ∧ ey exPr (dx exPr 0) = 0 := ⟨by decide +kernel, by decide +kernel, by decide +kernel, by decide +kernel⟩
theorem ud2 : pf exPr = ⟨0, 1⟩ := by decide +kernel
theorem xp_why : l7 exPr (gj exPr) = [0] ∧ lg exPr (gj exPr) = [] := ⟨by decide +kernel, by decide +kernel⟩
theorem xp_bound : l0 exPr false 0 = 4 ∧ i5 exPr false 0 = 0 ∧ l0 exPr false 1 = 0 ∧ i5 exPr false 1 = 0 ∧ l0 exPr true 0 = 5 ∧ i5 exPr true 0 = 0 := ⟨by decide +kernel, by decide +kernel, by decide +kernel, by decide +kernel, by decide +kernel, by decide +kernel⟩
theorem xp_chief : jk exPr 0 = [0, 1] ∧ gx exPr 0 = 0 ∧ jk exPr 1 = [] ∧ gx exPr 1 = 0 := ⟨by decide +kernel, by decide +kernel, by decide +kernel, by decide +kernel⟩
theorem ud1 : n7 exPr = [1, 0] := by
 have h0 : iv exPr 0 = 1 := by
  have := Net.pick_alone (N := bk exPr) (R := co exPr) (C := dh exPr) (j := 0) (by decide +kernel) (by decide +kernel)
  exact this.trans (by decide +kernel)
 have h1 : iv exPr 1 = 0 := by
  have e : iv exPr 1 = (bk exPr).pick ((bk exPr).lessR (co exPr) 0 1) (d9 (dh exPr) 0) 1 := by
   show (bk exPr).pick ((bk exPr).lessR (co exPr) 0 (iv exPr 0)) (d9 (dh exPr) 0) 1 = _
   rw [h0]
  have := Net.pick_alone (N := bk exPr) (R := (bk exPr).lessR (co exPr) 0 1) (C := d9 (dh exPr) 0) (j := 1) (by decide +kernel) (by decide +kernel)
  exact e.trans (this.trans (by decide +kernel))
 unfold n7
 rw [su]
 show [iv exPr 0, iv exPr 1] = _
 rw [h0, h1]
theorem ud3 : dx exPr 2 = 2 ∧ kf exPr 1 = 6 ∧ i5 exPr true 1 = 2 ∧ ey iq (dx iq 2) = 2 ∧ ey iq (dx iq 0) = 8 ∧ ey iq (ck iq) = 8 ∧ gx iq (-1) = 2 ∧ gx iq 0 = 8 ∧ ey qd (ck qd) = 90 ∧ ey um (ck um) = 10 ∧ kf iq 0 = 0 ∧ ck qd = 90 ∧ ck iq = 0 :=
 ⟨by decide +kernel, by decide +kernel, by decide +kernel, by decide +kernel, by decide +kernel, by decide +kernel, by decide +kernel, by decide +kernel, by decide +kernel, by decide +kernel, by decide +kernel, by decide +kernel, by decide +kernel⟩
end Go.AB
namespace Go.AB
open Go Go.RowKit
open Go.AB.Enc (cells)
open Go.PB (aq ah PlaceD av ax aw bg am af cb ba)
/-- who is found by one reader alone, so far -/
def fu (F W : List PlaceD) (q : PlaceD) : Bool := decide (q ∈ F) != decide (q ∈ W)
theorem uhk (F : List PlaceD) (q : PlaceD) : fu F [] q = decide (q ∈ F) := by simp [fu]
theorem vq {l : List PlaceD} (h : l.Pairwise fun a b => ez (da a) (da b) < 0) : l.Nodup := h.imp fun {a b} hab e => by
 rw [ms (by rfl)] at hab
 subst e
 exact nd _ hab
theorem ue1 {l : List PlaceD} (h : l.Nodup) {k : Nat} {q : PlaceD} (hq : l[k]? = some q) : q ∉ l.take k := fun hm => by
 obtain ⟨i, hi⟩ := List.getElem?_of_mem hm
 have hik : i < k := by have := (List.getElem?_eq_some_iff.1 hi).1; rw [List.length_take] at this; omega
 rw [List.getElem?_take_of_lt hik] at hi
 obtain ⟨h1, h2⟩ := List.getElem?_eq_some_iff.1 hi
 obtain ⟨h3, h4⟩ := List.getElem?_eq_some_iff.1 hq
 have := (List.pairwise_iff_getElem.1 h) i k h1 h3 hik
 exact this (h2.trans h4.symm)
/-- the place at hand is in the map if the first reader found it -/
theorem tm {F W : List PlaceD} (hW : W.Nodup) {k : Nat} {q : PlaceD} (hq : W[k]? = some q) : fu F (W.take k) q = decide (q ∈ F) := by
 unfold fu
 rw [decide_eq_false (ue1 hW hq)]
 cases decide (q ∈ F) <;> rfl
theorem uaf {F W : List PlaceD} (hW : W.Nodup) {k : Nat} {q : PlaceD} (hq : W[k]? = some q) (x : PlaceD) : fu F (W.take (k + 1)) x = bif decide (x = q) then !decide (q ∈ F) else fu F (W.take k) x := by
 have hm : decide (x ∈ W.take (k + 1)) = (decide (x ∈ W.take k) || decide (x = q)) := by
  rw [List.take_add_one, hq, Option.toList_some, Bool.eq_iff_iff]
  simp
 by_cases e : x = q
 ·subst e
  unfold fu
  rw [hm, decide_eq_true (rfl : x = x), Bool.or_true, cond_true]
  cases decide (x ∈ F) <;> rfl
 ·unfold fu
  rw [hm, decide_eq_false e, Bool.or_false, cond_false]
/-- what both found so far -/
def k7 (F W : List PlaceD) (k : Nat) : List PlaceD := (W.take k).filter fun q => decide (q ∈ F)
theorem uc0 {F W : List PlaceD} {k : Nat} {q : PlaceD} (hq : W[k]? = some q) : k7 F W (k + 1) = k7 F W k ++ bif decide (q ∈ F) then [q] else [] := by
 unfold k7
 rw [List.take_add_one, hq, Option.toList_some, List.filter_append]
 cases h : decide (q ∈ F) <;> simp [h]
theorem uc1 (F W : List PlaceD) (k : Nat) : (k7 F W k).length ≤ W.length := by
 unfold k7
 have := List.length_filter_le (fun q => decide (q ∈ F)) (W.take k)
 rw [List.length_take] at this
 omega
theorem ukl {p : af} {last : Int} {x : am} (h : l5 p last x) : k7 x.found x.well x.well.length = dn p.text x := by
 have hs : (k7 x.found x.well x.well.length).Pairwise fun a b => ez (da a) (da b) < 0 := by
  unfold k7
  rw [List.take_length]
  exact (uk h.well).filter _
 refine s6 hs (ul _) fun q => ?_
 unfold k7
 rw [List.take_length, List.mem_filter, decide_eq_true_eq]
 show _ ↔ q ∈ (f3 p.text).filter _
 rw [List.mem_filter, Bool.and_eq_true, decide_eq_true_eq, decide_eq_true_eq, allQ_mem]
 exact ⟨fun ⟨h1, h2⟩ => ⟨(ku h.well h1).1, h2, h1⟩, fun ⟨_, h2, h3⟩ => ⟨h3, h2⟩⟩
/-- both's places, and those of one alone in any order, put in order: all that are found -/
theorem udo {p : af} {last : Int} {x : am} (h : l5 p last x) {ks s : List PlaceD} (hn : ks.Nodup) (hk : ∀ q, q ∈ ks ↔ fu x.found x.well q = true) (hp : s.Perm (dn p.text x ++ ks)) (hs : s.Pairwise fun a b => ¬ ez (da b) (da a) < 0) : s = ed p.text x := by
 have hmb : ∀ q, q ∈ dn p.text x ↔ q ∈ x.found ∧ q ∈ x.well := fun q => by
  show q ∈ (f3 p.text).filter _ ↔ _
  rw [List.mem_filter, Bool.and_eq_true, decide_eq_true_eq, decide_eq_true_eq, allQ_mem]
  exact ⟨fun h => h.2, fun h2 => ⟨(ku h.well h2.2).1, h2⟩⟩
 have hko : ∀ q, fu x.found x.well q = true ↔ (q ∈ x.found ∧ q ∉ x.well) ∨ (q ∉ x.found ∧ q ∈ x.well) := fun q => by
  unfold fu
  by_cases h1 : q ∈ x.found <;> by_cases h2 : q ∈ x.well <;> simp [h1, h2]
 have hnd : (dn p.text x ++ ks).Nodup := by
  rw [List.nodup_append]
  refine ⟨vq (ul _), hn, fun a ha b hb e => ?_⟩
  subst e
  have h1 := (hmb a).1 ha
  rcases (hko a).1 ((hk a).1 hb) with h2 | h2
  ·exact h2.2 h1.2
  ·exact h2.1 h1.1
 have hsn : s.Nodup := hp.nodup_iff.2 hnd
 have hs2 : s.Pairwise fun a b => ez (da a) (da b) < 0 := by
  have := List.Pairwise.and hs hsn
  refine this.imp fun {a b} hab => ?_
  rw [ms (by rfl)] at hab ⊢
  refine Classical.byContradiction fun hno => hab.2 ?_
  exact uix (w7 (by rfl) hno hab.1)
 refine s6 hs2 (ul _) fun q => ?_
 rw [hp.mem_iff, List.mem_append, hmb, hk, hko]
 show _ ↔ q ∈ (f3 p.text).filter _
 rw [List.mem_filter, Bool.or_eq_true, decide_eq_true_eq, decide_eq_true_eq, allQ_mem]
 constructor
 ·rintro (⟨h1, h2⟩ | ⟨h1, _⟩ | ⟨_, h2⟩)
  ·exact ⟨(ku h.found h1).1, .inl h1⟩
  ·exact ⟨(ku h.found h1).1, .inl h1⟩
  ·exact ⟨(ku h.well h2).1, .inr h2⟩
 ·rintro ⟨_, h1 | h1⟩
  ·by_cases h2 : q ∈ x.well
   ·exact .inl ⟨h1, h2⟩
   ·exact .inr (.inl ⟨h1, h2⟩)
  ·by_cases h2 : q ∈ x.found
   ·exact .inl ⟨h2, h1⟩
   ·exact .inr (.inr ⟨h2, h1⟩)
/-! ### The words of a page, line by line -/
def iw (t : ah) (x : am) (l : List PlaceD) : Nat := (l.filter (i1 t x)).length
theorem yg (t : ah) (x : am) {k n : Nat} {c : aq} {l : List ByteArray} (hn : c.lines[n]? = some l) : iw t x (gq t k c.lines (n + 1)) = iw t x (gq t k c.lines n) + bif inB ((g3 t k : Int) + (n : Int)) x.fr x.to then l.length else 0 := by
 have e : gq t k c.lines (n + 1) = gq t k c.lines n ++ (jv k n l).map (·.1) := by
  unfold gq
  rw [ucv k hn, List.map_append, List.append_assoc]
 unfold iw
 rw [e, List.filter_append, List.length_append]
 congr 1
 have hall : ∀ q ∈ (jv k n l).map (·.1), i1 t x q = inB ((g3 t k : Int) + (n : Int)) x.fr x.to := fun q hq => by
  obtain ⟨y, hy, rfl⟩ := List.mem_map.1 hq
  obtain ⟨w, hw, rfl⟩ := List.mem_mapIdx.1 hy
  show inB (ru t ⟨(k : Int), (n : Int), (w : Int)⟩) x.fr x.to = _
  unfold ru
  dsimp only
  rw [Int.toNat_natCast, Int.add_comm]
 have hlen : ((jv k n l).map (·.1)).length = l.length := by rw [List.length_map]; unfold jv; rw [List.length_mapIdx]
 cases hb : inB ((g3 t k : Int) + (n : Int)) x.fr x.to
 ·rw [List.filter_eq_nil_iff.2 fun q hq => by rw [hall q hq, hb]; simp]; rfl
 ·rw [List.filter_eq_self.2 fun q hq => by rw [hall q hq, hb], hlen]; rfl
theorem uec (t : ah) (x : am) : iw t x (f3 t) = fb t x := rfl
end Go.AB
namespace Go.AB
open Go Go.RowKit
open Go.AB.Enc (cells)
open Go.PB (aq ah PlaceD av ax aw bg am af cb ba)
section
variable {N : Net} {R C : Nat → Int}
end
end Go.AB
namespace Go.PB
structure cr where
 readers : List Int
 pages : List Int
 read : List (List Int)
/-- the reference's: readers and pages alone -/
structure c4 where
 readers : List Int
 pages : List Int
end Go.PB
namespace Go.AB
open Go Go.RowKit
open Go.AB.Enc (cells)
open Go.PB (aq ah PlaceD av ax aw bg am af cb ba cr c4)
instance : Enc cr := ⟨fun x => [lst x.readers, lst x.pages, lst x.read], 3, fun _ => rfl, fun m x c h => by
 simp only [List.mem_cons, List.not_mem_nil, or_false] at h
 rcases h with rfl | rfl | rfl
 ·exact bd m _
 ·exact bd m _
 ·exact bd m _, fun x c h => by
 simp only [List.mem_cons, List.not_mem_nil, or_false] at h; rcases h with rfl | rfl | rfl <;> rfl⟩
def fq (p : af) (R C : Nat → Int) : cr := ⟨ce (bu p) R, ce p.pages.length C, p.pages.map (dd p)⟩
/-- numbers that no sum of takes too far -/
structure Bd (p : af) (R C : Nat → Int) : Prop where
 r : ∀ i, -1000000 ≤ R i ∧ R i ≤ 1000000
 c : ∀ j, 0 ≤ C j ∧ C j ≤ 1000000
 nr : bu p ≤ 6
 np : p.pages.length ≤ 8
theorem si {p : af} (h : fk p) : Bd p (co p) (dh p) := ⟨fun i => by have := uio h i; omega, fun j => by have := ukg h j; omega, by have := h.nf; have := h.ns; unfold bu; omega, h.np⟩
/-- what some first readers of a set have -/
def fR (R : Nat → Int) (S : Nat → Bool) (i : Nat) : Int := sm i fun k => bif S k then R k else 0
def fC (p : af) (C : Nat → Int) (S : Nat → Bool) (j : Nat) : Int := sm j fun k => bif (bk p).hit S k then 0 else C k
theorem ub3 (p : af) (R C : Nat → Int) (S : Nat → Bool) : (bk p).f R C S = fR R S (bu p) + fC p C S p.pages.length := rfl
theorem vr {g : Nat → Int} {m : Int} (h : ∀ i, -m ≤ g i ∧ g i ≤ m) : ∀ n : Nat, -(n * m) ≤ sm n g ∧ sm n g ≤ n * m
 | 0 => by simp [sm]
 | n + 1 => by
  have h1 := vr h n
  have h2 := h n
  have e : ((n + 1 : Nat) : Int) * m = (n : Int) * m + m := by rw [Int.natCast_add, Int.add_mul]; simp
  simp only [sm]
  omega
theorem xn {p : af} {R C : Nat → Int} (h : Bd p R C) (S : Nat → Bool) (i : Nat) (hi : i ≤ bu p) : -6000000 ≤ fR R S i ∧ fR R S i ≤ 6000000 := by
 have := vr (g := fun k => bif S k then R k else 0) (m := 1000000) (fun k => by cases S k; simp; exact h.r k) i
 have := h.nr
 unfold fR
 omega
theorem ub8 {p : af} {R C : Nat → Int} (h : Bd p R C) (S : Nat → Bool) (j : Nat) (hj : j ≤ p.pages.length) : 0 ≤ fC p C S j ∧ fC p C S j ≤ 8000000 := by
 have h1 := vr (g := fun k => bif (bk p).hit S k then 0 else C k) (m := 1000000) (fun k => by have := h.c k; cases (bk p).hit S k; simp; omega; simp) j
 have h2 := ufh (n := j) (g := fun k => bif (bk p).hit S k then 0 else C k) fun k _ => by have := h.c k; cases (bk p).hit S k; exact this.1; exact Int.le_refl _
 have := h.np
 unfold fC
 omega
theorem f_bd {p : af} {R C : Nat → Int} (h : Bd p R C) (S : Nat → Bool) : -6000000 ≤ (bk p).f R C S ∧ (bk p).f R C S ≤ 14000000 := by
 have h1 := xn h S _ (Nat.le_refl _)
 have h2 := ub8 h S _ (Nat.le_refl _)
 rw [ub3]
 omega
theorem uaz {g : Nat → Int} {a b : Int} (h : ∀ s, a ≤ g s ∧ g s ≤ b) (k : Nat) : a ≤ ke g k ∧ ke g k ≤ b := by
 obtain ⟨s, _, e⟩ := w4 (g := g) k
 rw [e]
 exact h s
theorem uav {p : af} {R C : Nat → Int} (h : Bd p R C) : -6000000 ≤ (bk p).most R C ∧ (bk p).most R C ≤ 14000000 := uaz (fun s => f_bd h _) _
end Go.AB
namespace Go.AB
open Go Go.RowKit
open Go.AB.Enc (cells)
section
variable {P : Program} {o : Oper} {st : St} {K : St → Prop}
/-- A slice that is built: owned. -/
theorem ucn {α : Type} [Enc α] {t e : TypeId} {bytes n : Nat} [AppT P t e (Enc.n α) bytes] {parts : List (Nat × Operand)} {rows : List (List C)} (xs : List α) (ho : o.op = .buildSlice t n parts.toArray) (hi : parts.map (·.1) = List.range n) (hr : lj (parts.map fun p => (p.1, evC st p.2)) = some rows) (hrx : rows = xs.map cells) (hn : n ≠ 0) (hs : 1 ≤ Enc.n α) (h24 : n * Enc.n α ≤ 16777216)
  (h : K (St.put { st with G := aj st.G st.nx (.arr 0 0 e (Enc.n α) n (cp xs)), nx := st.nx + 1 } o.dst (.own st.nx 0 n))) : EStep P o st K :=
 ji fun E w a hsim => by
  obtain ⟨sz, hszE⟩ : ∃ sz, sz = Enc.n α := ⟨_, rfl⟩
  have hsz : ∀ r ∈ rows, r.length = sz := fun r hr' => by
   rw [hrx] at hr'
   obtain ⟨x, _, rfl⟩ := List.mem_map.1 hr'
   rw [hszE]; exact Enc.len x
  rw [← hszE] at hs h24
  obtain ⟨ht, i, z, hie, hz, h1, h2, h3⟩ := AppT.spec (P := P) (t := t) (e := e) (sz := Enc.n α) (bytes := bytes)
  rw [← hszE] at h1 h3
  have hpl : parts.length = n := by have := congrArg List.length hi; simpa using this
  obtain ⟨r1, r2, r3, r4⟩ := vy (E := E) (w := w) (parts.map fun p => (p.1, evC st p.2)) (parts.map fun p => a.eval p.2) rows (by simp) (fun j i c hj => by
   rw [List.getElem?_map] at hj ⊢
   cases hp : parts[j]? with
   | none => rw [hp] at hj; cases hj
   | some p =>
    rw [hp] at hj
    simp only [Option.map_some, Option.some.injEq, Prod.mk.injEq] at hj
    obtain ⟨rfl, rfl⟩ := hj
    exact ⟨a.eval p.2, rfl, hsim.ev p.2⟩) hr
  simp only [List.length_map] at r1
  have hcs : ∀ v ∈ parts.map (fun p => a.eval p.2), v.cells.size = sz := fun v hv => by
   obtain ⟨j, hj⟩ := List.getElem?_of_mem hv
   have hlt : j < rows.length := by rw [r1]; simpa using (List.getElem?_eq_some_iff.1 hj).1
   rw [← r4 j _ v (List.getElem?_eq_getElem hlt) hj]
   exact hsz _ (List.getElem_mem hlt)
  have hpos : 0 < n * sz := Nat.mul_pos (by omega) (by omega)
  have hfill := Great.fill_whole (s := sz) (by omega) (parts.map fun p => a.eval p.2) ((Array.range (n * i.size)).map (z.cells[· % z.cells.size]!)) hcs (by simp [hpl, h1])
  have hparts : (((parts.map fun p => a.eval p.2).zipIdx 0).map fun x => (x.2, x.1)) = parts.map fun p => (p.1, a.eval p.2) := by
   apply List.ext_getElem?
   intro j
   simp only [List.getElem?_map, List.getElem?_zipIdx]
   cases hp : parts[j]? with
   | none => rfl
   | some p =>
    have h1 : (parts.map (·.1))[j]? = some p.1 := by rw [List.getElem?_map, hp]; rfl
    rw [hi] at h1
    have h2 : (List.range n)[j]? = some j := List.getElem?_range (by rw [← hpl]; exact (List.getElem?_eq_some_iff.1 hp).1)
    rw [h2] at h1
    simp only [Option.some.injEq] at h1
    simp [h1]
  rw [hparts, ← h1] at hfill
  have hrun := run_buildSlice (P := P) w t e n (parts.map fun p => (p.1, a.eval p.2)).toArray _ i z ht hie hz (by rw [h1]; omega) (by rw [h1]; omega) (by simpa using hfill)
  have hrl : rows.length = n := by omega
  have hfl := ly hsz
  have hul := r2.1
  obtain ⟨us, hus⟩ : ∃ us, us = (parts.map fun p => a.eval p.2).flatMap fun v => v.cells.toList := ⟨_, rfl⟩
  rw [← hus] at hrun r2 hul
  obtain ⟨ob, hob⟩ : ∃ ob, ob = Obj.cells us.toArray e := ⟨_, rfl⟩
  rw [← hob] at hrun
  have hev := Ev.laid hsim.g (o := ob) 0 (.inl rfl) (.inl rfl)
  have hg := SimG.laid hsim.g (o := ob) 0 (.inl rfl) (.inl rfl)
  have hnew : (w.alloc ob).heap[w.heap.size]? = some ob := p7 w ob
  have hwsz : (w.alloc ob).heap.size = w.heap.size + 1 := by simp
  have hold : ∀ n tt b, (E.lay w.heap.size 0).T n = some tt → blk tt.2.2 = some b → b < w.heap.size := fun n tt b h5 h6 => (hsim.g.tb n _ _ _ b h5 h6).2
  have hnx := hsim.g.nx
  have hev2 := hev.thenName (.slice (some ⟨w.heap.size, 0, none⟩) n n) fun b o' hbk ho' => by
   simp only [blk, Option.some.injEq] at hbk
   subst hbk
   have := (Array.getElem?_eq_some_iff.1 ho').1
   omega
  have hflat : rows.flatten = cp xs := by rw [hrx]; rfl
  have hrs : Rs ((E.lay w.heap.size 0).name (.slice (some ⟨w.heap.size, 0, none⟩) n n)) (w.alloc ob) (cp xs) us := by rw [← hflat]; exact r2.ev hev2
  have hmx : n ≤ maxLen := by unfold maxLen; have := Nat.le_mul_of_pos_right n (show 0 < sz by omega); omega
  have hg2 := SimG.name hg (.slice (some ⟨w.heap.size, 0, none⟩) n n) (.arr 0 0 e (Enc.n α) n (cp xs)) (fun b hbk => by
   simp only [blk, Option.some.injEq] at hbk
   subst hbk
   exact ⟨hsim.g.base, by rw [hwsz]; omega, fun n tt h5 h6 => absurd (hold n tt _ h5 h6) (by omega)⟩) (by
   refine ⟨.slice (some ⟨w.heap.size, 0, none⟩) n n, us, ?_, ⟨by rw [hul, hfl, hrl, hszE], .inr ⟨w.heap.size, n, _, rfl, hsim.g.base, hnew.trans (by rw [hob]), Nat.le_refl _, hmx, ?_, ?_⟩⟩, fun c hc => ?_, hrs, fun b hbk => ?_, by rw [← hszE]; exact hs⟩
   ·simp [Env.name, Env.lay, hnx]
   ·rw [List.size_toArray, hul, hfl, hrl, hszE]
   ·rw [List.toList_toArray, List.take_of_length_le (by rw [hul, hfl, hrl, hszE]; exact Nat.le_refl _)]
   ·obtain ⟨r, hr1, hc1⟩ := List.mem_flatten.1 hc
    obtain ⟨y, _, rfl⟩ := List.mem_map.1 hr1
    exact Enc.one y c hc1
   ·simp only [blk, Option.some.injEq] at hbk
    subst hbk
    simp [Env.name, Env.lay])
  refine ⟨.slice (some ⟨w.heap.size, 0, none⟩) n n, w.alloc ob, _, _, _, .own st.nx 0 n, ?_, hev2, ?_, hg2, h⟩
  ·simp only [execOp, ho, Sem.run_bind, List.map_toArray]
   rw [hrun]; rfl
  ·refine R.own (by simp [Env.name, Env.lay]; omega) (Nat.le_refl _) hmx fun ver wv val htt => ?_
   simp only [Env.name, Env.lay, hnx, if_true, Option.some.injEq, Prod.mk.injEq] at htt
   obtain ⟨rfl, rfl, rfl⟩ := htt
   exact ⟨Nat.le_refl _, fun _ => ⟨_, Nat.le_refl _, rfl⟩⟩
end
end Go.AB
namespace Go.AB
open Go Go.RowKit Go.Shelf Go.Proofs
open Go.AB.Enc (cells)
section
variable {P : Program} {o : Oper} {st : St} {K : St → Prop}
theorem uhc {E : Env} {w : World} {v : Value} {n ver len : Nat} (hp : R E w (.own n ver len) v) : ∃ a cap, v = .slice a len cap ∧ n < E.nx ∧ len ≤ cap ∧ cap ≤ maxLen ∧ ∀ ver' wv val, E.T n = some (ver', wv, val) → ver ≤ ver' ∧ (ver = ver' → ∃ m, len ≤ m ∧ val = .slice a m cap) := by
 cases hp with
 | own h1 h2 h3 h4 => exact ⟨_, _, rfl, h1, h2, h3, h4⟩
/-- append of nothing onto an own slice. -/
theorem uh1 {t e : TypeId} {sz bytes n ver m : Nat} [AppT P t e sz bytes] {s x : Operand} {tk : Tok} (ho : o.op = .call { callee := .builtin .append, args := #[s, x], argTypes := #[t, t] }) (hs : evC st s = .own n ver m) (hx : evC st x = .list [] tk) : NStep P o st (.own n ver m) := fun E w a hsim => by
 obtain ⟨ht, i, z, hie, hz, h1, h2, h3⟩ := AppT.spec (P := P) (t := t) (e := e) (sz := sz) (bytes := bytes)
 have hown := hs ▸ hsim.ev s
 obtain ⟨ad, cap, e1, q1, q2, q3, q4⟩ := uhc hown
 obtain ⟨ao, c, _, _, e3, _⟩ := (hx ▸ hsim.ev x).list_inv
 refine ⟨a.eval s, hown, fun w' => ?_⟩
 have hrun := rb (P := P) w' t o.type e i ht hie ad ao m cap c q2
 simp only [execOp, ho, resolve, invoke, builtin, Sem.run_bind, Sem.run_pure, Result.andThen_ok, List.map_toArray, List.map_cons, List.map_nil, e1, e3]
 rw [List.length_nil] at *
 rw [hrun]; rfl
/-- append of data onto an own slice. -/
theorem ucp {α : Type} [Enc α] {t e : TypeId} {bytes n ver wv : Nat} [AppT P t e (Enc.n α) bytes] {s x : Operand} {tk : Tok} {rows : List (List C)} {xs : List α} {m : Nat} {cs : List C} (ys : List α) (ho : o.op = .call { callee := .builtin .append, args := #[s, x], argTypes := #[t, t] }) (hs : evC st s = .own n ver m) (hG : st.G n = some (.arr ver wv e (Enc.n α) m cs)) (hc : cs = cp xs) (hm : m = xs.length) (hx : evC st x = .list rows tk) (hy : rows = ys.map cells) (hb : (xs.length + ys.length) * bytes ≤ 140737488355328) (hmax : xs.length + ys.length ≤ 9223372036854775807)
  (h : ∀ v : Nat, K (St.put { st with G := aj st.G n (.arr v wv e (Enc.n α) (xs ++ ys).length (cp (xs ++ ys))) } o.dst (.own n v (xs ++ ys).length))) : EStep P o st K := by
 subst hc; subst hm; subst hy
 by_cases h0 : ys = []
 ·subst h0
  have h1 := h ver
  simp only [List.append_nil] at h1
  have h2 : aj st.G n (.arr ver wv e (Enc.n α) xs.length (cp xs)) = st.G := by
   funext k
   simp only [aj]
   split
   ·rename_i e; rw [e, hG]
   ·rfl
  rw [h2] at h1
  exact SStep.e' (NStep.s (D := fun _ => True) (uh1 ho hs hx)) h1
 ·refine ujy ho hs hG hx (mj ys) (by simpa using hb) (by simpa using hmax) (by simpa using h0) ?_
  have h1 := h (ver + 1)
  rw [uby] at h1
  simpa [cp] using h1
end
end Go.AB
namespace Go.AB
open Go Go.RowKit
open Go.AB.Enc (cells)
open Go.PB (aq ah PlaceD av ax aw bg am af cb ba cr c4)
/-- the first of some numbers that is not nought -/
def orN (xs : List Int) : Int := (xs.find? fun x => !decide (x = 0)).getD 0
theorem uhe {xs : List Int} {k : Nat} {x : Int} (hx : xs[k]? = some x) (hne : x ≠ 0) (h : ∀ y ∈ xs.take k, y = 0) : orN xs = x := by
 unfold orN
 rw [List.find?_eq_some_iff_append.2 ⟨by simpa using hne, xs.take k, xs.drop (k + 1), ?_, fun y hy => by simp [h y hy]⟩]
 ·rfl
 obtain ⟨h1, h2⟩ := List.getElem?_eq_some_iff.1 hx
 rw [← h2, ← List.drop_eq_getElem_cons h1, List.take_append_drop]
theorem uhg {xs : List Int} (h : ∀ y ∈ xs, y = 0) : orN xs = 0 := by
 unfold orN
 rw [List.find?_eq_none.2 fun y hy => by simp [h y hy]]
 rfl
theorem uh6 {α : Type} {l : List α} {k : Nat} {x : α} {p : α → Prop} (hx : l[k]? = some x) (hp : p x) (h : ∀ y ∈ l.take k, p y) : ∀ y ∈ l.take (k + 1), p y := fun y hy => by
 rw [List.take_add_one, hx] at hy
 simp only [Option.toList_some, List.mem_append, List.mem_singleton] at hy
 rcases hy with hy | rfl
 ·exact h y hy
 exact hp
def kb (a b : PlaceD) : Int := ez (da a) (da b)
theorem uhf (a b : PlaceD) : orN [gl a.ch b.ch, gl a.ln b.ln, gl a.wd b.wd] = kb a b := by
 unfold orN kb da
 simp only [ez]
 by_cases h1 : gl a.ch b.ch = 0
 ·by_cases h2 : gl a.ln b.ln = 0
  ·by_cases h3 : gl a.wd b.wd = 0 <;> simp [h1, h2, h3]
  simp [h1, h2]
 simp [h1]
/-- the order of lists, shorter ones first -/
def vt (a b : List Int) : Int := orN [(a.length : Int) - (b.length : Int), ez a b]
theorem s9 (a b : List Int) : decide (vt a b < 0) = gy a b := by
 unfold vt orN gy
 by_cases h1 : (a.length : Int) - (b.length : Int) = 0
 ·have h2 : a.length = b.length := by omega
  have h3 : ¬ a.length < b.length := by omega
  by_cases h4 : ez a b = 0
  ·simp [h2, h4]
  simp [h2, h4]
 have h2 : ¬ a.length = b.length := by omega
 by_cases h3 : a.length < b.length
 ·have : (a.length : Int) - (b.length : Int) < 0 := by omega
  simp [h1, h2, h3, this]
 have : ¬ (a.length : Int) - (b.length : Int) < 0 := by omega
 simp [h1, h2, h3, this]
def km (t : ah) (k : Nat) : List Int := (List.range k).map fun i => (g3 t i : Int)
theorem yp (t : ah) (k : Nat) : (km t k).length = k := by simp [km]
theorem yq {t : ah} {k i : Nat} (h : i < k) : (km t k)[i]? = some (g3 t i : Int) := by simp [km, h]
theorem ufe (t : ah) (k : Nat) : km t (k + 1) = km t k ++ [(g3 t k : Int)] := by
 unfold km
 rw [List.range_succ, List.map_append]; rfl
theorem s4 {t : ah} (ht : ff t = true) (k : Nat) (hk : k ≤ t.length) : g3 t k ≤ 60 := by
 obtain ⟨h1, h2, h3⟩ := m5 ht
 have key : ∀ k, k ≤ t.length → g3 t k ≤ 10 * k := by
  intro k
  induction k with
  | zero => intro _; rw [uff]; exact Nat.zero_le _
  | succ k ih =>
   intro hk
   have hc : t[k]? = some t[k] := List.getElem?_eq_getElem (by omega)
   rw [yr hc]
   have := ih (by omega)
   have := (h3 _ (jh hc)).2.1
   omega
 have := key k hk
 omega
end Go.AB
namespace Go.Proofs.YtgffhbbcpgdjjaaDoor
set_option maxRecDepth 10000
open Go.RowKit Go.AB
open Go.AB.Enc (cells)
open Go.PB (aq ah PlaceD av ax aw bg am af cb ba cr c4)
theorem zx (xs : List Int) : Pure Tryd.prog 81 [lst xs] (.v (.int .i64 (orN xs))) := by
 refine dr Tryd.func81 rfl (fun m => .v) fun G nx => ?_
 simp only [Tryd.ntmps81, List.length_cons, List.length_nil, Nat.reduceAdd, Nat.reduceSub]
 refine bv fun hlt => ?_
 dsimp only at hlt
 refine n1 0 (fun hf => ?_)
 replace hf := (fit_lst.1 hf).1
 refine yS fun _ K1 => ?_
 refine yR ?_
 refine yA rfl rfl ?_
 refine yN ?_
 dsimp only [St.put]
 refine K1 _ ?_
 refine yS fun _ K2 => ?_
 refine yR ?_
 refine yA rfl rfl ?_
 refine yN ?_
 dsimp only [St.put]
 refine K2 _ ?_
 refine yS fun _ K3 => ?_
 refine yS fun _ K4 => ?_
 refine yR ?_
 refine yM rfl rfl ?_
 refine aa rfl (cc rfl rfl (List.length_map _)) ?_
 refine yM rfl rfl ?_
 refine yN ?_
 dsimp only [St.put]
 refine K4 _ ?_
 refine cd ?_
 refine du 9 ?_
 refine zQ ?_
 refine fa (G) zX ?_
 dsimp only
 refine et (X := Nat) (fun k => k ≤ xs.length ∧ ∀ y ∈ xs.take k, y = 0) (fun k => xs.length - k) (fun k => [(4, .any), (5, .any), (8, .v (.int .i64 (k : Int)))]) (fun k G' => G') 0 rfl ?_ ?_ (fun _ _ h => h) ?_ ?_ ?_
 ·exact ⟨by simp, by simp⟩
 ·exact zF
 ·rintro k hI
  exact zL
 ·exact fun _ _ _ _ h => .inl h
 rintro k hI
 dsimp only at hI ⊢
 refine yS fun _ K5 => ?_
 refine yR ?_
 refine aa rfl (dp rfl rfl rfl) ?_
 refine yN ?_
 dsimp only [St.put]
 refine K5 _ ?_
 refine yS fun _ K6 => ?_
 refine bc rfl (fun hc => ?_) (fun hc => ?_)
 ·replace hc := of_decide_eq_true hc
  obtain ⟨x, hx⟩ : ∃ x, xs[k]? = some x := fl (by omega)
  refine bi ?_
  refine K6 _ ?_
  refine yS fun _ K7 => ?_
  refine cd ?_
  refine yS fun _ K8 => ?_
  refine yR ?_
  refine aa rfl (c5 rfl rfl rfl rfl (c7 (by assumption)) (Enc.len _)) ?_
  refine yL rfl rfl rfl ?_
  refine yA rfl rfl ?_
  refine yN ?_
  dsimp only [St.put]
  refine K8 _ ?_
  refine yS fun _ K9 => ?_
  refine yR ?_
  refine yM rfl rfl ?_
  refine yM rfl rfl ?_
  refine aa rfl (f8 rfl rfl rfl) ?_
  refine yN ?_
  dsimp only [St.put]
  refine K9 _ ?_
  refine bc rfl (fun hc => ?_) (fun hc => ?_)
  ·replace hc := j2 hc
   refine yS fun _ K10 => ?_
   refine yR ?_
   refine yM rfl rfl ?_
   refine yA rfl rfl ?_
   refine yN ?_
   dsimp only [St.put]
   refine K10 _ ?_
   refine ay ?_
   refine cg rfl (by constructor) zN zS ?_
   exact vi (uhe hx hc hI.2).symm
  replace hc := g6 hc
  refine bi ?_
  refine K7 _ ?_
  refine yR ?_
  refine aa rfl (ct rfl rfl rfl (by omega)) ?_
  refine yM rfl rfl ?_
  refine yN ?_
  dsimp only [St.put]
  exact ⟨k + 1, by omega, ⟨by omega, uh6 hx hc hI.2⟩, ⟨⟨rfl, rfl⟩, zF, zB, zN, zX⟩⟩
 try replace hc := of_decide_eq_false hc
 refine el ?_
 refine K3 _ ?_
 refine yS fun _ K11 => ?_
 refine yR ?_
 refine yM rfl rfl ?_
 refine yA rfl rfl ?_
 refine yN ?_
 dsimp only [St.put]
 refine K11 _ ?_
 refine ay ?_
 refine cg rfl (by constructor) zN zS ?_
 exact vi (by
  rw [uhg]
  have := hI.2
  rwa [iy (by omega)] at this)
theorem ug6 (n lo hi : Int) : Pure Tryd.prog 75 [.v (.int .i64 n), .elem [.v (.int .i64 lo)], .elem [.v (.int .i64 hi)]] (.v (.bool (ko n lo hi))) := by
 refine dr Tryd.func75 rfl (fun m => .v) fun G nx => ?_
 simp only [Tryd.ntmps75, List.length_cons, List.length_nil, Nat.reduceAdd, Nat.reduceSub]
 refine bv fun hlt => ?_
 dsimp only at hlt
 refine yS fun _ K1 => ?_
 refine yR ?_
 refine yA rfl rfl ?_
 refine yN ?_
 dsimp only [St.put]
 refine K1 _ ?_
 refine yS fun _ K2 => ?_
 refine yR ?_
 refine yM rfl rfl ?_
 refine yL rfl rfl rfl ?_
 refine aa rfl (dp rfl rfl rfl) ?_
 refine ir (fun hs => ?_) (fun hs => ?_)
 ·try replace hs := of_decide_eq_true hs
  refine yM rfl rfl ?_
  refine yK rfl ?_
  refine yK rfl ?_
  refine yK rfl ?_
  refine aa rfl (bz rfl rfl (by constructor)) ?_
  refine yA rfl rfl ?_
  refine yN ?_
  dsimp only [St.put]
  refine K2 _ ?_
  refine ay ?_
  refine cg rfl (by constructor) zN zS ?_
  exact vb (by simp [ko, hs]; try omega)
 try replace hs := of_decide_eq_false hs
 refine yM rfl rfl ?_
 refine yM rfl rfl ?_
 refine yL rfl rfl rfl ?_
 refine aa rfl (ot rfl rfl rfl) ?_
 refine aa rfl (cj rfl rfl (by constructor)) ?_
 refine yA rfl rfl ?_
 refine yN ?_
 dsimp only [St.put]
 refine K2 _ ?_
 refine ay ?_
 refine cg rfl (by constructor) zN zS ?_
 exact vb (by simp [ko, hs]; try omega)
theorem ll (lo hi : Int) (xs : List Int) : Pure Tryd.prog 42 [.v (.int .i64 lo), .v (.int .i64 hi), lst xs] (.v (.bool (uc lo hi xs))) := by
 refine dr Tryd.func42 rfl (fun m => .v) fun G nx => ?_
 simp only [Tryd.ntmps42, List.length_cons, List.length_nil, Nat.reduceAdd, Nat.reduceSub]
 refine bv fun hlt => ?_
 dsimp only at hlt
 refine yS fun _ K1 => ?_
 refine yR ?_
 try dsimp only [St.put]
 refine yB rfl rfl rfl ?_
 try dsimp only [St.put]
 refine yB rfl rfl rfl ?_
 refine yA rfl rfl ?_
 refine yN ?_
 dsimp only [St.put]
 refine K1 _ ?_
 refine yS fun _ K2 => ?_
 refine yR ?_
 refine yM rfl rfl ?_
 refine aa rfl (oq rfl rfl) ?_
 try dsimp only [St.put]
 refine ab rfl (az rfl rfl rfl (u6 xs (fun n => ko n lo hi) _ _ fun x _ => ug6 x lo hi) ?_)
 refine aa rfl (ge rfl rfl) ?_
 refine yA rfl rfl ?_
 refine yN ?_
 dsimp only [St.put]
 refine K2 _ ?_
 refine ay ?_
 refine cg rfl (by constructor) zN zS ?_
 rfl
theorem wc (a b : PlaceD) : Pure Tryd.prog 69 [val a, val b] (.v (.int .i64 (kb a b))) := by
 refine dr Tryd.func69 rfl (fun m => .v) fun G nx => ?_
 simp only [Tryd.ntmps69, List.length_cons, List.length_nil, Nat.reduceAdd, Nat.reduceSub]
 refine bv fun hlt => ?_
 dsimp only at hlt
 refine yS fun _ K1 => ?_
 refine yR ?_
 try dsimp only [St.put]
 refine yB rfl rfl rfl ?_
 try dsimp only [St.put]
 refine yB rfl rfl rfl ?_
 refine yA rfl rfl ?_
 refine yN ?_
 dsimp only [St.put]
 refine K1 _ ?_
 refine yS fun _ K2 => ?_
 refine ia [(0, none), (1, none), (2, none), (3, none), (5, none), (6, none), (7, none), (8, none), (10, none), (11, none), (12, none), (13, none), (4, none), (9, none), (14, none), (15, none), (16, none), (17, none)] (fun i => [14, 15, 16].contains i) (fun i => [4, 9, 14, 15, 16].contains i) (fun i => [0, 2, 5, 7, 10, 12, 17].contains i) [] (by kernel_rfl) (by kernel_rfl) ?_
 refine ai rfl rfl rfl rfl (c6 rfl rfl rfl) ?_
 try dsimp only [St.put]
 refine ak rfl rfl rfl rfl (bw rfl rfl) ?_
 refine ai rfl rfl rfl rfl (c6 rfl rfl rfl) ?_
 try dsimp only [St.put]
 refine ak rfl rfl rfl rfl (bw rfl rfl) ?_
 refine ai rfl rfl rfl rfl (c6 rfl rfl rfl) ?_
 try dsimp only [St.put]
 refine ak rfl rfl rfl rfl (bw rfl rfl) ?_
 refine ai rfl rfl rfl rfl (c6 rfl rfl rfl) ?_
 try dsimp only [St.put]
 refine ak rfl rfl rfl rfl (bw rfl rfl) ?_
 refine ai rfl rfl rfl rfl (c6 rfl rfl rfl) ?_
 try dsimp only [St.put]
 refine ak rfl rfl rfl rfl (bw rfl rfl) ?_
 refine ai rfl rfl rfl rfl (c6 rfl rfl rfl) ?_
 try dsimp only [St.put]
 refine ak rfl rfl rfl rfl (bw rfl rfl) ?_
 refine jb ?_
 try dsimp only [St.put]
 refine ki rfl rfl rfl (az rfl rfl rfl (uq _ _) ⟨zD, ?_⟩)
 try dsimp only [St.put]
 refine ki rfl rfl rfl (az rfl rfl rfl (uq _ _) ⟨zD, ?_⟩)
 try dsimp only [St.put]
 refine gz rfl rfl rfl rfl (az rfl rfl rfl (uq _ _) ?_)
 try dsimp only [St.put]
 refine gz rfl rfl rfl rfl (cy rfl rfl rfl (by decide) (by decide) zR (by decide) ?_)
 try dsimp only [St.put]
 refine gz rfl rfl rfl rfl (az rfl rfl rfl (zx [gl a.ch b.ch, gl a.ln b.ln, gl a.wd b.wd]) ?_)
 refine ef rfl rfl rfl rfl (bq rfl (by constructor)) ?_
 refine ja ?_
 dsimp only [St.put]
 refine K2 _ ?_
 refine ay ?_
 refine cg rfl (by constructor) zN zS ?_
 exact vi (uhf a b)
theorem ug2 (a b : List Int) (ha : a.length ≤ 1000) (hb : b.length ≤ 1000) : Pure Tryd.prog 53 [lst a, lst b] (.v (.int .i64 (vt a b))) := by
 refine dr Tryd.func53 rfl (fun m => .v) fun G nx => ?_
 simp only [Tryd.ntmps53, List.length_cons, List.length_nil, Nat.reduceAdd, Nat.reduceSub]
 refine bv fun hlt => ?_
 dsimp only at hlt
 refine yS fun _ K1 => ?_
 refine yR ?_
 refine yA rfl rfl ?_
 refine yN ?_
 dsimp only [St.put]
 refine K1 _ ?_
 refine yS fun _ K2 => ?_
 refine yR ?_
 refine yM rfl rfl ?_
 refine aa rfl (cc rfl rfl (List.length_map _)) ?_
 refine yM rfl rfl ?_
 refine aa rfl (cc rfl rfl (List.length_map _)) ?_
 refine aa rfl (je rfl rfl rfl (by omega)) ?_
 refine yM rfl rfl ?_
 refine yM rfl rfl ?_
 try dsimp only [St.put]
 refine ab rfl (az rfl rfl rfl (uj3 a b ha hb) ?_)
 try dsimp only [St.put]
 refine ab rfl (cy rfl rfl rfl (by decide) (by decide) zR (by decide) ?_)
 try dsimp only [St.put]
 refine ab rfl (az rfl rfl rfl (zx [(a.length : Int) - (b.length : Int), ez a b]) ?_)
 refine yA rfl rfl ?_
 refine yN ?_
 dsimp only [St.put]
 refine K2 _ ?_
 refine ay ?_
 refine cg rfl (by constructor) zN zS ?_
 rfl
theorem ug1 (t : ah) (q : PlaceD) (ht : ff t = true) : Pure Tryd.prog 68 [oe t, val q] (.v (.bool (ga t q))) := by
 refine dr Tryd.func68 rfl (fun m => .v) fun G nx => ?_
 simp only [Tryd.ntmps68, List.length_cons, List.length_nil, Nat.reduceAdd, Nat.reduceSub]
 refine bv fun hlt => ?_
 dsimp only at hlt
 obtain ⟨hl1, hl2, hl3⟩ := m5 ht
 refine yS fun _ K1 => ?_
 refine yR ?_
 try dsimp only [St.put]
 refine yB rfl rfl rfl ?_
 try dsimp only [St.put]
 refine yB rfl rfl rfl ?_
 refine yA rfl rfl ?_
 refine yN ?_
 dsimp only [St.put]
 refine K1 _ ?_
 refine yS fun _ K2 => ?_
 refine du 5 ?_
 refine zQ ?_
 refine n2 (X := Bool) (fun b => b = !(io t (q.ch, q.ln)).isSome) (fun b => [(29, .v (.bool b))]) (fun b G' => G') rfl ?_ (fun _ _ _ _ h => .inl h) ?_ ?_
 ·rintro b hI
  exact zL
 ·refine udh [(0, none), (1, none), (2, none), (3, none), (4, none), (5, none)] (fun _ => false) (fun i => [0, 2, 3, 4].contains i) 19 (rl [6, 19]) (by kernel_rfl) (by kernel_rfl) ?_
  refine ai rfl rfl rfl rfl (c6 rfl rfl rfl) ?_
  try dsimp only [St.put]
  refine ak rfl rfl rfl rfl (bw rfl rfl) ?_
  refine ai rfl rfl rfl rfl (cc rfl rfl (List.length_map _)) ?_
  refine ai rfl rfl rfl rfl (je rfl rfl rfl (by omega)) ?_
  refine ai rfl rfl rfl rfl (c6 rfl rfl rfl) ?_
  try dsimp only [St.put]
  refine ak rfl rfl rfl rfl (bw rfl rfl) ?_
  refine fm ?_
  refine ii [6] (by kernel_rfl) (by simp) ?_
  refine ig ?_ ?_
  ·try dsimp only [St.put]
   refine mx rfl rfl rfl (cy rfl rfl rfl (by decide) (by decide) zR (by decide) ?_)
   refine ii [7] (by kernel_rfl) (by simp) ?_
   refine ig ?_ ?_
   ·try dsimp only [St.put]
    refine mx rfl rfl rfl (az rfl rfl rfl (ll _ _ [_]) ?_)
    refine ka [(8, none), (9, none), (10, none), (11, none), (12, none), (13, none), (14, none), (15, none), (16, none), (17, none), (18, none), (19, none), (20, none)] (fun i => [8, 9, 10, 12, 14, 15, 17, 18, 19].contains i) 4 (rl [21, 4]) (by kernel_rfl) ?_
    refine ai rfl rfl rfl rfl (ge rfl rfl) ?_
    refine xM rfl rfl rfl rfl rfl ?_
    refine sn (fun hs => ?_) (fun hs => ?_)
    ·have h8 : inB q.ch 0 ((t.length : Int) - 1) = false := by rw [fw] at hs; simpa using hs
     refine bx rfl rfl rfl ?_
     refine bx rfl rfl rfl ?_
     refine bx rfl rfl rfl ?_
     refine bx rfl rfl rfl ?_
     refine bx rfl rfl rfl ?_
     refine bx rfl rfl rfl ?_
     refine bx rfl rfl rfl ?_
     refine bx rfl rfl rfl ?_
     refine bx rfl rfl rfl ?_
     refine bx rfl rfl rfl ?_
     refine bx rfl rfl rfl ?_
     refine fm ?_
     refine ii [21] (by kernel_rfl) (by simp) ?_
     refine ig ?_ ?_
     ·refine k8 rfl rfl rfl ?_
      refine ii [22] (by kernel_rfl) (by simp) ?_
      refine ig ?_ ?_
      ·refine k8 rfl rfl rfl ?_
       refine ka [(23, none), (24, none)] (fun i => [23, 24].contains i) 0 (rl [25]) (by kernel_rfl) ?_
       refine bx rfl rfl rfl ?_
       refine ai rfl rfl rfl rfl (bz rfl rfl (by constructor)) ?_
       refine fm ?_
       dsimp only [St.put]
       refine o8 (by kernel_rfl) ?_
       refine ⟨_, ?_, ⟨⟨rfl, rfl⟩, zF, zB, zN, zX⟩⟩
       rw [yh]
       (simp [h8]; done)
      exact ie
     exact ie
    have h8 : inB q.ch 0 ((t.length : Int) - 1) = true := by rw [fw] at hs; simpa using hs
    have hn1' := h8
    simp only [inB_true] at hn1'
    obtain ⟨c, hcx⟩ : ∃ c, t[q.ch.toNat]? = some c := fl (by omega)
    have hnl : kp t q.ch = c.lines.length := by simp [kp, hcx]
    have hll := (hl3 c (jh hcx)).2.1
    have hch : q.ch = ((q.ch.toNat : Nat) : Int) := by omega
    refine ai rfl rfl rfl rfl (c6 rfl rfl rfl) ?_
    try dsimp only [St.put]
    refine ak rfl rfl rfl rfl (bw rfl rfl) ?_
    refine ai rfl rfl rfl rfl (c6 rfl rfl rfl) ?_
    try dsimp only [St.put]
    refine ak rfl rfl rfl rfl (bw rfl rfl) ?_
    try dsimp only [St.put]
    refine ai rfl rfl rfl rfl (c5 rfl rfl rfl (by omega) (c7 (by assumption)) (Enc.len _)) ?_
    refine ai rfl rfl rfl rfl (c6 rfl rfl rfl) ?_
    try dsimp only [St.put]
    refine ak rfl rfl rfl rfl (bw rfl rfl) ?_
    refine ai rfl rfl rfl rfl (cc rfl rfl (List.length_map _)) ?_
    refine ai rfl rfl rfl rfl (je rfl rfl rfl (by omega)) ?_
    refine ai rfl rfl rfl rfl (c6 rfl rfl rfl) ?_
    try dsimp only [St.put]
    refine ak rfl rfl rfl rfl (bw rfl rfl) ?_
    refine fm ?_
    refine ii [21] (by kernel_rfl) (by simp) ?_
    refine ig ?_ ?_
    ·try dsimp only [St.put]
     refine mx rfl rfl rfl (cy rfl rfl rfl (by decide) (by decide) zR (by decide) ?_)
     refine ii [22] (by kernel_rfl) (by simp) ?_
     refine ig ?_ ?_
     ·try dsimp only [St.put]
      refine mx rfl rfl rfl (az rfl rfl rfl (ll _ _ [_]) ?_)
      refine ka [(23, none), (24, none)] (fun i => [23, 24].contains i) 0 (rl [25]) (by kernel_rfl) ?_
      refine ai rfl rfl rfl rfl (ge rfl rfl) ?_
      refine ai rfl rfl rfl rfl (cj rfl rfl (by constructor)) ?_
      refine fm ?_
      dsimp only [St.put]
      refine o8 (by kernel_rfl) ?_
      refine ⟨_, ?_, ⟨⟨rfl, rfl⟩, zF, zB, zN, zX⟩⟩
      rw [yh]
      (simp [h8, hnl, fw]; done)
     exact ie
    exact ie
   exact ie
  exact ie
 rintro b hst
 dsimp only at hst ⊢
 refine bc rfl (fun hc => ?_) (fun hc => ?_)
 ·have hw : io t (q.ch, q.ln) = none := by rw [hc] at hst; simpa using hst.symm
  refine yS fun _ K4 => ?_
  refine yR ?_
  refine yA rfl rfl ?_
  refine yN ?_
  dsimp only [St.put]
  refine K4 _ ?_
  refine ay ?_
  refine cg rfl (by constructor) zN zS ?_
  exact vb (by unfold ga; rw [hw])
 have hw0 : (io t (q.ch, q.ln)).isSome = true := by rw [hc] at hst; simpa using hst.symm
 obtain ⟨l, hw⟩ := Option.isSome_iff_exists.1 hw0
 obtain ⟨k, n, c, hkn, hk, hn⟩ := sx hw
 have hch : q.ch = ((k : Nat) : Int) := congrArg Prod.fst hkn
 have hln : q.ln = ((n : Nat) : Int) := congrArg Prod.snd hkn
 have hwl := vc ht hw
 refine bi ?_
 refine K2 _ ?_
 refine yS fun _ K5 => ?_
 refine ia [(0, none), (1, none), (2, none), (3, none), (4, none), (5, none), (6, none), (7, none), (8, none), (9, none), (10, none), (11, none), (12, none), (13, none), (14, none), (15, none), (16, none), (17, none)] (fun i => [16].contains i) (fun i => [15, 16].contains i) (fun i => [0, 2, 4, 5, 7, 9, 11, 12, 13, 17].contains i) [] (by kernel_rfl) (by kernel_rfl) ?_
 refine ai rfl rfl rfl rfl (c6 rfl rfl rfl) ?_
 try dsimp only [St.put]
 refine ak rfl rfl rfl rfl (bw rfl rfl) ?_
 refine ai rfl rfl rfl rfl (c6 rfl rfl rfl) ?_
 try dsimp only [St.put]
 refine ak rfl rfl rfl rfl (bw rfl rfl) ?_
 try dsimp only [St.put]
 refine ai rfl rfl rfl rfl (c5 rfl rfl rfl (by omega) (c7 (by assumption)) (Enc.len _)) ?_
 refine ai rfl rfl rfl rfl (c6 rfl rfl rfl) ?_
 try dsimp only [St.put]
 refine ak rfl rfl rfl rfl (bw rfl rfl) ?_
 refine ai rfl rfl rfl rfl (c6 rfl rfl rfl) ?_
 try dsimp only [St.put]
 refine ak rfl rfl rfl rfl (bw rfl rfl) ?_
 try dsimp only [St.put]
 refine ai rfl rfl rfl rfl (c5 rfl rfl rfl (by omega) (c7 (by assumption)) (Enc.len _)) ?_
 try dsimp only [St.put]
 refine ak rfl rfl rfl rfl (bw rfl rfl) ?_
 refine ai rfl rfl rfl rfl (cc rfl rfl (List.length_map _)) ?_
 refine ai rfl rfl rfl rfl (je rfl rfl rfl (by omega)) ?_
 refine ai rfl rfl rfl rfl (c6 rfl rfl rfl) ?_
 try dsimp only [St.put]
 refine ak rfl rfl rfl rfl (bw rfl rfl) ?_
 refine jb ?_
 try dsimp only [St.put]
 refine ki rfl rfl rfl (cy rfl rfl rfl (by decide) (by decide) zR (by decide) ⟨zD, ?_⟩)
 try dsimp only [St.put]
 refine gz rfl rfl rfl rfl (az rfl rfl rfl (ll _ _ [_]) ?_)
 refine ef rfl rfl rfl rfl (bq rfl (by constructor)) ?_
 refine ja ?_
 dsimp only [St.put]
 refine K5 _ ?_
 refine ay ?_
 refine cg rfl (by constructor) zN zS ?_
 exact vb (by unfold ga; rw [hw, fw])
theorem ug5 (t : ah) (ht : ff t = true) : Pure Tryd.prog 67 [oe t] (.tup [lst (km t t.length), .v (.int .i64 (pz t : Int))]) := by
 refine dr Tryd.func67 rfl (fun m => .tup (bn (bd _ _) (bn .v cv))) fun G nx => ?_
 simp only [Tryd.ntmps67, List.length_cons, List.length_nil, Nat.reduceAdd, Nat.reduceSub]
 refine bv fun hlt => ?_
 dsimp only at hlt
 obtain ⟨hl1, hl2, hl3⟩ := m5 ht
 refine yS fun _ K1 => ?_
 refine yR ?_
 try dsimp only [St.put]
 refine yB rfl rfl rfl ?_
 refine yA rfl rfl ?_
 refine yA rfl rfl ?_
 refine yN ?_
 dsimp only [St.put]
 refine K1 _ ?_
 refine yS fun _ K2 => ?_
 refine yR ?_
 refine yA rfl rfl ?_
 refine yN ?_
 dsimp only [St.put]
 refine K2 _ ?_
 refine o5 4 3 1 rfl (by decide) ?_
 dsimp only [List.set_cons_zero, List.set_cons_succ]
 refine yS fun _ K3 => ?_
 refine yR ?_
 refine yA rfl rfl ?_
 refine yN ?_
 dsimp only [St.put]
 refine K3 _ ?_
 refine yS fun _ K4 => ?_
 refine yS fun _ K5 => ?_
 refine yR ?_
 refine yF rfl rfl rfl rfl ?_
 refine yL rfl rfl rfl ?_
 refine aa rfl (cc rfl rfl (List.length_map _)) ?_
 refine yM rfl rfl ?_
 refine yN ?_
 dsimp only [St.put]
 refine K5 _ ?_
 refine cd ?_
 refine du 12 ?_
 refine zQ ?_
 refine fa (aj G nx (.tip 0 3 1)) zX ?_
 dsimp only
 refine et (X := Nat) (fun k => k ≤ t.length) (fun k => t.length - k) (fun k => [(4, .list ((km t k).map cells) (.tip nx)), (5, .v (.int .i64 (g3 t k : Int))), (7, .any), (11, .v (.int .i64 (k : Int)))]) (fun k G' => aj G nx (.tip (km t k).length 3 1)) 0 rfl ?_ ?_ ?_ ?_ ?_ ?_
 ·exact Nat.zero_le _
 ·exact zF
 ·exact zX
 ·rintro k hI
  exact zL
 ·rintro k hI
  exact zH
 rintro k hI
 dsimp only at hI ⊢
 refine yS fun _ K6 => ?_
 refine yR ?_
 refine aa rfl (dp rfl rfl rfl) ?_
 refine yN ?_
 dsimp only [St.put]
 refine K6 _ ?_
 refine yS fun _ K7 => ?_
 refine bc rfl (fun hc => ?_) (fun hc => ?_)
 ·replace hc := of_decide_eq_true hc
  obtain ⟨c, hcx⟩ : ∃ c, t[k]? = some c := fl (by omega)
  have hll := (hl3 c (jh hcx)).2.1
  have hsl := s4 ht k (by omega)
  have hst : ((g3 t (k + 1) : Nat) : Int) = (g3 t k : Int) + (c.lines.length : Int) := by rw [yr hcx]; omega
  have hln := yp t k
  refine bi ?_
  refine K7 _ ?_
  refine yS fun _ K8 => ?_
  refine cd ?_
  refine yS fun _ K9 => ?_
  refine yR ?_
  refine aa rfl (c5 rfl rfl rfl rfl (c7 (by assumption)) (Enc.len _)) ?_
  refine yE rfl rfl rfl ?_
  try dsimp only [St.put]
  refine ab rfl (dg rfl ?_)
  try dsimp only [St.put]
  refine ab rfl (cn rfl rfl rfl zG rfl rfl (by rfl) ?_)
  refine yN ?_
  dsimp only [St.put]
  refine K9 _ ?_
  refine fj (i := 7) rfl zG zC ?_
  dsimp only
  refine yS fun _ K10 => ?_
  refine yR ?_
  refine yM rfl rfl ?_
  refine yM rfl rfl ?_
  try dsimp only [St.put]
  refine ab rfl (cy rfl rfl rfl (by decide) (by decide) zR (by decide) ?_)
  try dsimp only [St.put]
  refine ab rfl (j8 ([(g3 t k : Int)]) rfl rfl zG zE rfl rfl zA ?_ zA)
  refine yA rfl rfl ?_
  refine yN ?_
  dsimp only [St.put]
  refine K10 _ ?_
  refine yR ?_
  refine yM rfl rfl ?_
  refine yF rfl rfl rfl rfl ?_
  refine yL rfl rfl rfl ?_
  refine aa rfl (cc rfl rfl (List.length_map _)) ?_
  refine aa rfl (ct rfl rfl rfl (by omega)) ?_
  refine yA rfl rfl ?_
  refine yN ?_
  dsimp only [St.put]
  refine K8 _ ?_
  refine yR ?_
  refine aa rfl (ct rfl rfl rfl (by omega)) ?_
  refine yM rfl rfl ?_
  refine yN ?_
  dsimp only [St.put]
  rw [← hst]
  simp only [← ufe]
  exact ⟨k + 1, by omega, by omega, ⟨⟨rfl, rfl⟩, zF, zB, zN, zX⟩⟩
 replace hc := of_decide_eq_false hc
 obtain rfl : k = t.length := by omega
 refine el ?_
 refine K4 _ ?_
 refine yS fun _ K11 => ?_
 refine yR ?_
 refine yM rfl rfl ?_
 refine yM rfl rfl ?_
 refine yA rfl rfl ?_
 refine yA rfl rfl ?_
 refine yN ?_
 dsimp only [St.put]
 refine K11 _ ?_
 refine ay ?_
 refine gw rfl (eb (by constructor)) (eb (by constructor)) zN zS ?_ ?_
 ·exact zW
 exact Wk.of_eq (vi rfl)
end Go.Proofs.YtgffhbbcpgdjjaaDoor
namespace Go.AB
open Go Go.RowKit Go.ChangeShapes Go.WideShapes
open Go.AB.Enc (cells)
open Go.PB (aq ah PlaceD av ax aw)
def ubk (P : Program) (t : TypeId) (k : IntKind) : Bool := match P.underlying t with | some (.int k') => k' == k && P.cellsOf t == 1 | _ => false
def s3 (P : Program) (t : TypeId) (l : List (Nat × TypeId × Nat)) (n : Nat) : Bool := match P.underlying t with
 | some (.struct fs) => (fs.toList.map fun f => (f.offset, f.type, P.cellsOf f.type)) == l && P.cellsOf t == n
 | _ => false
section
variable {P : Program} {t e : TypeId}
theorem ulx {k : IntKind} (h : ubk P t k = true) : P.underlying t = some (.int k) ∧ P.cellsOf t = 1 := by
 unfold ubk at h
 split at h
 ·rename_i k' he
  simp only [Bool.and_eq_true, beq_iff_eq] at h
  rw [he, h.1]; exact ⟨rfl, h.2⟩
 ·cases h
theorem ufd {l : List (Nat × TypeId × Nat)} {n : Nat} (h : s3 P t l n = true) : P.cellsOf t = n ∧ ∃ fs, P.underlying t = some (.struct fs) := by
 unfold s3 at h
 split at h
 ·rename_i fs he
  simp only [Bool.and_eq_true, beq_iff_eq] at h
  exact ⟨h.2, fs, he⟩
 ·cases h
end
theorem uiu {P : Program} {f : FuncId} {cs : List C} {v fv : Value} {fc : C} (hp : PureF (.fact fv fc) P f cs (.v v)) {w : World} {args : List Value} (hF : R (my w) w fc fv) (hr : Rs (my w) w cs args) :
  Calls P f args.toArray w fun e w' => e = .returned v ∧ Below w.heap.size w w' := by
 obtain ⟨E1, v1, g1⟩ := ub2 (ula w) hF
 refine (hp _ _ (ma _ _ _) E1 w args (hr.ev v1) g1).mono ?_
 rintro e w' ⟨r, x, E', G', nx', rfl, hev, hx, _, rfl, _⟩
 exact ⟨by rw [hx.v_inv], by have := hev.below; rw [v1.B] at this; exact this⟩
end Go.AB
namespace Go.AB
open Go Go.RowKit Go.ChangeShapes Go.WideShapes
open Go.AB.Enc (cells)
variable {P : Program} {o : Oper} {st : St}
end Go.AB
namespace Go.AB
open Go Go.RowKit
open Go.AB.Enc (cells)
variable {P : Program} {o : Oper} {st : St}
theorem wy {xt yt : TypeId} {x y : Operand} {m n : Int} (ho : o.op = .binOp .mul xt x y yt) (hx : evC st x = .v (.int .i64 m)) (hy : evC st y = .v (.int .i64 n)) (hb : -9223372036854775808 ≤ m * n ∧ m * n ≤ 9223372036854775807) : NStep P o st (.v (.int .i64 (m * n))) :=
 jq ho hx hy (j1 hb) fun w => by
  have : IntKind.i64.wrap (m * n) = m * n := by rw [IntKind.wrap_i64]; omega
  simp [eqGuard, binOp, Op.intArith, this]
theorem wx {xt yt : TypeId} {x y : Operand} {m n : Int} (ho : o.op = .binOp .quo xt x y yt) (hx : evC st x = .v (.int .i64 m)) (hy : evC st y = .v (.int .i64 n)) (hm : 0 ≤ m ∧ m ≤ 9223372036854775807) (hn : 0 < n) : NStep P o st (.v (.int .i64 (m / n))) := by
 have h3 : 0 ≤ m / n := Int.ediv_nonneg hm.1 (by omega)
 have h4 : m / n ≤ m := Int.ediv_le_self _ hm.1
 exact jq ho hx hy (j1 (by omega)) fun w => by
  have h1 : ¬ n = 0 := by omega
  have h2 : m.tdiv n = m / n := Int.tdiv_eq_ediv_of_nonneg hm.1
  have h5 : IntKind.i64.wrap (m / n) = m / n := by rw [IntKind.wrap_i64]; omega
  simp [eqGuard, binOp, Op.intDiv, h1, h2, h5]
theorem ues {n : Nat} (h : n ≤ 62) : (2 : Int) ^ n ≤ 4611686018427387904 := by
 have : 2 ^ n ≤ 2 ^ 62 := Nat.pow_le_pow_right (by omega) h
 have h2 : ((2 ^ n : Nat) : Int) = (2 : Int) ^ n := by norm_cast
 rw [← h2]
 have h3 : (2 : Nat) ^ 62 = 4611686018427387904 := by decide
 omega
/-- one, shifted -/
theorem uap {xt yt : TypeId} {x y : Operand} {n : Nat} (ho : o.op = .binOp .shl xt x y yt) (hx : evC st x = .v (.int .i64 1)) (hy : evC st y = .v (.int .i64 (n : Int))) (hn : n ≤ 62) : NStep P o st (.v (.int .i64 ((2 ^ n : Nat) : Int))) := by
 have h0 := ues hn
 have h2 : ((2 ^ n : Nat) : Int) = (2 : Int) ^ n := by norm_cast
 have h1 : 0 ≤ ((2 ^ n : Nat) : Int) := Int.natCast_nonneg _
 exact jq ho hx hy (j1 (by omega)) fun w => by
  have e1 : ¬ ((n : Int) < 0) := by omega
  have e2 : min (n : Int).toNat IntKind.i64.bits = n := by rw [Int.toNat_natCast]; show min n 64 = n; omega
  have e3 : IntKind.i64.wrap (1 * 2 ^ n) = ((2 ^ n : Nat) : Int) := by rw [Int.one_mul, ← h2, IntKind.wrap_i64]; omega
  simp only [eqGuard, binOp, Op.shift, e1, if_false, e2, e3]
  rfl
/-- a number that is not below 0, shifted back -/
theorem ww {xt yt : TypeId} {x y : Operand} {k : IntKind} {m n : Nat} (ho : o.op = .binOp .shr xt x y yt) (hx : evC st x = .v (.int k (m : Int))) (hy : evC st y = .v (.int .i64 (n : Int))) (hn : n ≤ k.bits) (hm : (m : Int) ≤ hiK k) (hk : loK k ≤ 0) : NStep P o st (.v (.int k ((m / 2 ^ n : Nat) : Int))) := by
 have h4 : m / 2 ^ n ≤ m := Nat.div_le_self _ _
 exact n_int' ho hx hy (okV_int.2 (by obtain ⟨q, hq⟩ : ∃ q, m / 2 ^ n = q := ⟨_, rfl⟩; rw [hq] at h4 ⊢; omega)) fun w => by
  have e1 : ¬ ((n : Int) < 0) := by omega
  have e2 : min (n : Int).toNat k.bits = n := by rw [Int.toNat_natCast]; omega
  have e3 : (m : Int).fdiv (2 ^ n) = ((m / 2 ^ n : Nat) : Int) := by
   have h2 : ((2 ^ n : Nat) : Int) = (2 : Int) ^ n := by norm_cast
   rw [← h2, Int.fdiv_eq_ediv_of_nonneg _ (Int.natCast_nonneg _)]
   norm_cast
  simp only [eqGuard, binOp, Op.shift, e1, if_false, e2, e3]
  rfl
where
 n_int' {op : BinOp} {xt yt : TypeId} {x y : Operand} {k k' : IntKind} {m n : Int} {r : Value} (ho : o.op = .binOp op xt x y yt) (hx : evC st x = .v (.int k m)) (hy : evC st y = .v (.int k' n))
  (h1 : okV r = true) (h : ∀ w, (do eqGuard op xt x y (.int k m) (.int k' n); binOp op xt (.int k m) (.int k' n)).run P w = .ok r w) : NStep P o st (.v r) := fun E w a hs => by
  have e1 := (hx ▸ hs.ev x).v_inv
  have e2 := (hy ▸ hs.ev y).v_inv
  refine ⟨r, .v h1, fun w' => ?_⟩
  have := h w'
  simp only [execOp, ho, e1, e2, Sem.run_bind] at this ⊢
  rw [this]
  rfl
/-- the last bit -/
theorem wz {xt yt : TypeId} {x y : Operand} {k : IntKind} {m : Nat} (ho : o.op = .binOp .and xt x y yt) (hx : evC st x = .v (.int k (m : Int))) (hy : evC st y = .v (.int k 1)) (hm : m < 2 ^ k.bits) (hb : 2 ≤ k.bits) : NStep P o st (.v (.int k ((m % 2 : Nat) : Int))) := by
 have h2 : m % 2 < 2 := Nat.mod_lt _ (by omega)
 exact jq ho hx hy (okV_int.2 (by cases k <;> simp only [loK, hiK] <;> omega)) fun w => by
  have e1 : (BitVec.ofInt k.bits (m : Int) &&& BitVec.ofInt k.bits 1).toNat = m % 2 := by
   have q1 : (BitVec.ofInt k.bits (m : Int)).toNat = m := by
    rw [show BitVec.ofInt k.bits (m : Int) = BitVec.ofNat k.bits m from BitVec.ofInt_natCast .., BitVec.toNat_ofNat, Nat.mod_eq_of_lt hm]
   have q2 : (BitVec.ofInt k.bits 1).toNat = 1 := by
    rw [show BitVec.ofInt k.bits 1 = BitVec.ofNat k.bits 1 from BitVec.ofInt_natCast k.bits 1, BitVec.toNat_ofNat, Nat.mod_eq_of_lt]
    exact Nat.one_lt_two_pow (by omega)
   rw [BitVec.toNat_and, q1, q2, Nat.and_one_is_mod]
  have e2 : k.wrap ((m % 2 : Nat) : Int) = ((m % 2 : Nat) : Int) := by
   have : m % 2 = 0 ∨ m % 2 = 1 := by omega
   rcases this with h | h <;> rw [h] <;> cases k <;> decide
  simp only [eqGuard, binOp, Op.intBits, e1, e2]
  simp
end Go.AB
namespace Go.AB
open Go Go.RowKit
open Go.AB.Enc (cells)
open Go.PB (aq ah PlaceD av ax aw bg am af cb ba cr c4)
instance decLtW : ∀ a b : List Int, Decidable (ltW a b)
 | [], _ => isFalse (by simp [ltW])
 | _ :: _, [] => isFalse (by simp [ltW])
 | x :: a, y :: b => by
  have := decLtW a b
  unfold ltW
  exact inferInstance
end Go.AB
namespace Go.Proofs.YtgffhbbcpgdjjaaDoor
set_option maxRecDepth 10000
open Go.RowKit Go.AB
open Go.AB.Enc (cells)
open Go.PB (aq ah PlaceD av ax aw bg am af cb ba cr c4)
theorem zh (a b : List Int) (ha : a.length ≤ 1000) : Pure Tryd.prog 24 [lst a, lst b] (.v (.bool (decide (a = b)))) := by
 refine dr Tryd.func24 rfl (fun m => .v) fun G nx => ?_
 simp only [Tryd.ntmps24, List.length_cons, List.length_nil, Nat.reduceAdd, Nat.reduceSub]
 refine bv fun hlt => ?_
 dsimp only at hlt
 refine n1 1 (fun hfb => ?_)
 have hb := (fit_lst.1 hfb).1
 refine yS fun _ K1 => ?_
 refine yR ?_
 refine yA rfl rfl ?_
 refine yN ?_
 dsimp only [St.put]
 refine K1 _ ?_
 refine yS fun _ K2 => ?_
 refine yS fun _ K3 => ?_
 refine yR ?_
 refine yM rfl rfl ?_
 refine aa rfl (cc rfl rfl (List.length_map _)) ?_
 refine yM rfl rfl ?_
 refine aa rfl (cc rfl rfl (List.length_map _)) ?_
 refine aa rfl (f8 rfl rfl rfl) ?_
 refine yN ?_
 dsimp only [St.put]
 refine K3 _ ?_
 refine bc rfl (fun hc => ?_) (fun hc => ?_)
 ·try replace hc := of_decide_eq_true hc
  refine yS fun _ K4 => ?_
  refine yR ?_
  refine yA rfl rfl ?_
  refine yN ?_
  dsimp only [St.put]
  refine K4 _ ?_
  refine ay ?_
  refine cg rfl (by constructor) zN zS ?_
  exact vb (by
   have : a ≠ b := fun e => by subst e; simp at hc
   simp [this])
 have hl : a.length = b.length := by
  have := g6 hc
  omega
 refine bi ?_
 refine K2 _ ?_
 refine yS fun _ K5 => ?_
 refine yS fun _ K6 => ?_
 refine yR ?_
 refine yA rfl rfl ?_
 refine yN ?_
 dsimp only [St.put]
 refine K6 _ ?_
 refine cd ?_
 refine du 6 ?_
 refine zQ ?_
 refine fa (G) zX ?_
 dsimp only
 refine et (X := Nat) (fun k => k ≤ a.length ∧ a.take k = b.take k) (fun k => a.length - k) (fun k => [(5, .v (.int .i64 (k : Int)))]) (fun k G' => G') 0 rfl ?_ ?_ (fun _ _ h => h) ?_ ?_ ?_
 ·exact ⟨Nat.zero_le _, by simp⟩
 ·exact zF
 ·rintro k hI
  exact zL
 ·exact fun _ _ _ _ h => .inl h
 rintro k hI
 dsimp only at hI ⊢
 refine yS fun _ K7 => ?_
 refine yS fun _ K8 => ?_
 refine yR ?_
 refine yM rfl rfl ?_
 refine yM rfl rfl ?_
 refine aa rfl (cc rfl rfl (List.length_map _)) ?_
 refine aa rfl (dp rfl rfl rfl) ?_
 refine yN ?_
 dsimp only [St.put]
 refine K8 _ ?_
 refine bc rfl (fun hc => ?_) (fun hc => ?_)
 ·replace hc := of_decide_eq_true hc
  obtain ⟨x, hx⟩ : ∃ x, a[k]? = some x := fl (by omega)
  obtain ⟨y, hy⟩ : ∃ y, b[k]? = some y := fl (by omega)
  refine bi ?_
  refine K7 _ ?_
  refine yS fun _ K9 => ?_
  refine cd ?_
  refine yS fun _ K10 => ?_
  refine ia [(0, none), (1, none), (2, none), (3, none), (4, none), (5, none), (6, none), (7, none), (8, none)] (fun i => [].contains i) (fun i => [].contains i) (fun i => [0, 1, 2, 4, 5, 6, 8].contains i) [] (by kernel_rfl) (by kernel_rfl) ?_
  refine xM rfl rfl rfl rfl rfl ?_
  refine xM rfl rfl rfl rfl rfl ?_
  try dsimp only [St.put]
  refine ai rfl rfl rfl rfl (c5 rfl rfl rfl rfl (c7 (by assumption)) (Enc.len _)) ?_
  try dsimp only [St.put]
  refine ak rfl rfl rfl rfl (bw rfl rfl) ?_
  refine xM rfl rfl rfl rfl rfl ?_
  refine xM rfl rfl rfl rfl rfl ?_
  try dsimp only [St.put]
  refine ai rfl rfl rfl rfl (c5 rfl rfl rfl rfl (c7 (by assumption)) (Enc.len _)) ?_
  try dsimp only [St.put]
  refine ak rfl rfl rfl rfl (bw rfl rfl) ?_
  refine ai rfl rfl rfl rfl (f8 rfl rfl rfl) ?_
  refine fm ?_
  dsimp only [St.put]
  refine K10 _ ?_
  refine bc rfl (fun hc => ?_) (fun hc => ?_)
  ·have hxy := j2 hc
   refine yS fun _ K11 => ?_
   refine yR ?_
   refine yA rfl rfl ?_
   refine yN ?_
   dsimp only [St.put]
   refine K11 _ ?_
   refine ay ?_
   refine cg rfl (by constructor) zN zS ?_
   exact vb (by simp [uam hx hy hxy])
  have hxy := g6 hc
  refine bi ?_
  refine K9 _ ?_
  refine yR ?_
  refine yM rfl rfl ?_
  refine aa rfl (ct rfl rfl rfl (by omega)) ?_
  refine yA rfl rfl ?_
  refine yN ?_
  dsimp only [St.put]
  exact ⟨k + 1, by omega, ⟨by omega, yk hI.2 hx (hxy ▸ hy)⟩, ⟨⟨rfl, rfl⟩, zF, zB, zN, zX⟩⟩
 replace hc := of_decide_eq_false hc
 refine el ?_
 refine K5 _ ?_
 refine yS fun _ K12 => ?_
 refine yR ?_
 refine yA rfl rfl ?_
 refine yN ?_
 dsimp only [St.put]
 refine K12 _ ?_
 refine ay ?_
 refine cg rfl (by constructor) zN zS ?_
 exact vb (by
  have h1 := hI.2
  rw [iy (by omega), iy (by omega)] at h1
  simp [h1])
end Go.Proofs.YtgffhbbcpgdjjaaDoor
namespace Go.AB
open Go Go.RowKit
open Go.AB.Enc (cells)
open Go.PB (aq ah PlaceD av ax aw bg am af cb ba cr c4)
theorem bit_eq {s k : Nat} : (((s / 2 ^ k % 2 : Nat) : Int) = 1) ↔ s.testBit k = true := by
 rw [Nat.testBit_eq_decide_div_mod_eq, decide_eq_true_eq]
 omega
end Go.AB
namespace Go.Proofs.YtgffhbbcpgdjjaaDoor
set_option maxRecDepth 10000
open Go.RowKit Go.AB
open Go.AB.Enc (cells)
open Go.PB (aq ah PlaceD av ax aw bg am af cb ba cr c4)
end Go.Proofs.YtgffhbbcpgdjjaaDoor
namespace Go.AB
open Go Go.RowKit
open Go.AB.Enc (cells)
open Go.PB (aq ah PlaceD av ax aw bg am af cb ba cr c4)
theorem yn {l : List am} {g : am → Nat} (k : Nat) : d7 (l.take k) g ≤ d7 l g := by
 have h : d7 l g = d7 (l.take k) g + d7 (l.drop k) g := by
  unfold d7
  rw [← List.sum_append, ← List.map_append, List.take_append_drop]
 omega
theorem uh3 {p : af} {b : Bool} {i : Nat} {r : bg} (h : (di p b)[i]? = some r) : j4 p b i = r.miss := by unfold j4; rw [h]
theorem ujh (R : Nat → Int) (S : Nat → Bool) (k : Nat) : fR R S (k + 1) = fR R S k + bif S k then R k else 0 := rfl
theorem ub7 (p : af) (C : Nat → Int) (S : Nat → Bool) (k : Nat) : fC p C S (k + 1) = fC p C S k + bif (bk p).hit S k then 0 else C k := rfl
end Go.AB
namespace Go.Proofs.YtgffhbbcpgdjjaaDoor
set_option maxRecDepth 10000
open Go.RowKit Go.AB
open Go.AB.Enc (cells)
open Go.PB (aq ah PlaceD av ax aw bg am af cb ba cr c4)
end Go.Proofs.YtgffhbbcpgdjjaaDoor
namespace Go.Proofs.YtgffhbbcpgdjjaaDoor
set_option maxRecDepth 10000
open Go Go.RowKit Go.AB
open Go.AB.Enc (cells)
open Go.PB (aq ah PlaceD av ax aw bg am af cb ba cr c4)
theorem ufq (p : af) : Pure Tryd.prog 145 [val p] (lst p.firsts) := by
 refine dr Tryd.func145 rfl (fun m => (bd _ _)) fun G nx => ?_
 simp only [Tryd.ntmps145, List.length_cons, List.length_nil, Nat.reduceAdd, Nat.reduceSub]
 refine bv fun hlt => ?_
 dsimp only at hlt
 refine yS fun _ K1 => ?_
 refine yR ?_
 try dsimp only [St.put]
 refine yB rfl rfl rfl ?_
 refine yA rfl rfl ?_
 refine yN ?_
 dsimp only [St.put]
 refine K1 _ ?_
 refine yS fun _ K2 => ?_
 refine yR ?_
 refine yF rfl rfl rfl rfl ?_
 refine yL rfl rfl rfl ?_
 refine yA rfl rfl ?_
 refine yN ?_
 dsimp only [St.put]
 refine K2 _ ?_
 refine ay ?_
 refine cg rfl (by constructor) zN zS ?_
 rfl
theorem ufp (x : am) : Pure Tryd.prog 146 [val x] (.v (.int .i64 x.fst)) := by
 refine dr Tryd.func146 rfl (fun m => .v) fun G nx => ?_
 simp only [Tryd.ntmps146, List.length_cons, List.length_nil, Nat.reduceAdd, Nat.reduceSub]
 refine bv fun hlt => ?_
 dsimp only at hlt
 refine yS fun _ K1 => ?_
 refine yR ?_
 try dsimp only [St.put]
 refine yB rfl rfl rfl ?_
 refine yA rfl rfl ?_
 refine yN ?_
 dsimp only [St.put]
 refine K1 _ ?_
 refine yS fun _ K2 => ?_
 refine yR ?_
 refine yF rfl rfl rfl rfl ?_
 refine yL rfl rfl rfl ?_
 refine yA rfl rfl ?_
 refine yN ?_
 dsimp only [St.put]
 refine K2 _ ?_
 refine ay ?_
 refine cg rfl (by constructor) zN zS ?_
 rfl
theorem ufo (x : am) : Pure Tryd.prog 147 [val x] (lst x.found) := by
 refine dr Tryd.func147 rfl (fun m => (bd _ _)) fun G nx => ?_
 simp only [Tryd.ntmps147, List.length_cons, List.length_nil, Nat.reduceAdd, Nat.reduceSub]
 refine bv fun hlt => ?_
 dsimp only at hlt
 refine yS fun _ K1 => ?_
 refine yR ?_
 try dsimp only [St.put]
 refine yB rfl rfl rfl ?_
 refine yA rfl rfl ?_
 refine yN ?_
 dsimp only [St.put]
 refine K1 _ ?_
 refine yS fun _ K2 => ?_
 refine yR ?_
 refine yF rfl rfl rfl rfl ?_
 refine yL rfl rfl rfl ?_
 refine yA rfl rfl ?_
 refine yN ?_
 dsimp only [St.put]
 refine K2 _ ?_
 refine ay ?_
 refine cg rfl (by constructor) zN zS ?_
 rfl
theorem ufn (p : af) : Pure Tryd.prog 148 [val p] (lst p.seconds) := by
 refine dr Tryd.func148 rfl (fun m => (bd _ _)) fun G nx => ?_
 simp only [Tryd.ntmps148, List.length_cons, List.length_nil, Nat.reduceAdd, Nat.reduceSub]
 refine bv fun hlt => ?_
 dsimp only at hlt
 refine yS fun _ K1 => ?_
 refine yR ?_
 try dsimp only [St.put]
 refine yB rfl rfl rfl ?_
 refine yA rfl rfl ?_
 refine yN ?_
 dsimp only [St.put]
 refine K1 _ ?_
 refine yS fun _ K2 => ?_
 refine yR ?_
 refine yF rfl rfl rfl rfl ?_
 refine yL rfl rfl rfl ?_
 refine yA rfl rfl ?_
 refine yN ?_
 dsimp only [St.put]
 refine K2 _ ?_
 refine ay ?_
 refine cg rfl (by constructor) zN zS ?_
 rfl
theorem ufm (x : am) : Pure Tryd.prog 149 [val x] (.v (.int .i64 x.snd)) := by
 refine dr Tryd.func149 rfl (fun m => .v) fun G nx => ?_
 simp only [Tryd.ntmps149, List.length_cons, List.length_nil, Nat.reduceAdd, Nat.reduceSub]
 refine bv fun hlt => ?_
 dsimp only at hlt
 refine yS fun _ K1 => ?_
 refine yR ?_
 try dsimp only [St.put]
 refine yB rfl rfl rfl ?_
 refine yA rfl rfl ?_
 refine yN ?_
 dsimp only [St.put]
 refine K1 _ ?_
 refine yS fun _ K2 => ?_
 refine yR ?_
 refine yF rfl rfl rfl rfl ?_
 refine yL rfl rfl rfl ?_
 refine yA rfl rfl ?_
 refine yN ?_
 dsimp only [St.put]
 refine K2 _ ?_
 refine ay ?_
 refine cg rfl (by constructor) zN zS ?_
 rfl
theorem ufl (x : am) : Pure Tryd.prog 150 [val x] (lst x.well) := by
 refine dr Tryd.func150 rfl (fun m => (bd _ _)) fun G nx => ?_
 simp only [Tryd.ntmps150, List.length_cons, List.length_nil, Nat.reduceAdd, Nat.reduceSub]
 refine bv fun hlt => ?_
 dsimp only at hlt
 refine yS fun _ K1 => ?_
 refine yR ?_
 try dsimp only [St.put]
 refine yB rfl rfl rfl ?_
 refine yA rfl rfl ?_
 refine yN ?_
 dsimp only [St.put]
 refine K1 _ ?_
 refine yS fun _ K2 => ?_
 refine yR ?_
 refine yF rfl rfl rfl rfl ?_
 refine yL rfl rfl rfl ?_
 refine yA rfl rfl ?_
 refine yN ?_
 dsimp only [St.put]
 refine K2 _ ?_
 refine ay ?_
 refine cg rfl (by constructor) zN zS ?_
 rfl
def sRd (b : Bool) : FuncId := bif b then 148 else 145
def sFt (b : Bool) : FuncId := bif b then 149 else 146
def sFd (b : Bool) : FuncId := bif b then 150 else 147
instance (b : Bool) : Fun Tryd.prog (sRd b) := by
 cases b
 ·exact inferInstanceAs (Fun Tryd.prog 145)
 exact inferInstanceAs (Fun Tryd.prog 148)
instance (b : Bool) : Fun Tryd.prog (sFt b) := by
 cases b
 ·exact inferInstanceAs (Fun Tryd.prog 146)
 exact inferInstanceAs (Fun Tryd.prog 149)
instance (b : Bool) : Fun Tryd.prog (sFd b) := by
 cases b
 ·exact inferInstanceAs (Fun Tryd.prog 147)
 exact inferInstanceAs (Fun Tryd.prog 150)
theorem m7 (b : Bool) (p : af) : Pure Tryd.prog (sRd b) [val p] (lst (di p b)) := by
 cases b
 ·exact ufq p
 exact ufn p
theorem vv (b : Bool) (x : am) : Pure Tryd.prog (sFt b) [val x] (.v (.int .i64 (eu b x))) := by
 cases b
 ·exact ufp x
 exact ufm x
theorem y7 (b : Bool) (x : am) : Pure Tryd.prog (sFd b) [val x] (lst (cw b x)) := by
 cases b
 ·exact ufo x
 exact ufl x
abbrev l9 (b : Bool) : List C := [.fn (.func (sRd b)) [], .fn (.func (sFt b)) [], .fn (.func (sFd b)) []]
abbrev sidL : List C := l9 false ++ l9 true
abbrev eg : GObj := .fact (.pointer (some ⟨0, 0, none⟩)) (.elem sidL)
abbrev jo (p : af) : List C := [lst p.text, lst p.firsts, lst p.seconds, lst p.pages, lst (p.pages.map fun x => (fb p.text x : Int)), lst (p.pages.map (ed p.text)), lst (p.pages.map (dn p.text))]
theorem s8 : ∀ {k : Nat}, k < 2 → (sidL.drop (k * 3)).take 3 = l9 (decide (k = 1))
 | 0, _ => rfl
 | 1, _ => rfl
 | k + 2, h => by omega
set_option maxHeartbeats 1000000 in
theorem zo (p : af) (b : Bool) (i : Nat) (h : fk p) (hi : i < (di p b).length) : Pure Tryd.prog 43 [.elem (jo p), .agg (l9 b), .v (.int .i64 (i : Int))] (.tup [.v (.int .i64 (mu p b i)), .v (.int .i64 (ng p b i))]) := by
 refine dr Tryd.func43 rfl (fun m => .tup (bn .v (bn .v cv))) fun G nx => ?_
 simp only [Tryd.ntmps43, List.length_cons, List.length_nil, Nat.reduceAdd, Nat.reduceSub]
 refine bv fun hlt => ?_
 dsimp only at hlt
 have hown := z7 h b (i : Int)
 have hrd := zf h b (i : Int)
 have hal := o7 h.text
 have hnp := h.np
 have hmb := uaw h b i
 obtain ⟨r, hr⟩ : ∃ r, (di p b)[i]? = some r := fl hi
 have hmr := uh3 hr
 refine yS fun _ K1 => ?_
 refine yR ?_
 try dsimp only [St.put]
 refine yB rfl rfl rfl ?_
 refine yA rfl rfl ?_
 refine yA rfl rfl ?_
 refine yN ?_
 dsimp only [St.put]
 refine K1 _ ?_
 refine yS fun _ K2 => ?_
 refine yR ?_
 refine yA rfl rfl ?_
 refine yA rfl rfl ?_
 refine yN ?_
 dsimp only [St.put]
 refine K2 _ ?_
 refine yS fun _ K3 => ?_
 refine yS fun _ K4 => ?_
 refine yR ?_
 refine yM rfl rfl ?_
 refine aa rfl (j3 rfl rfl) ?_
 refine yF rfl rfl rfl rfl ?_
 refine yF rfl rfl rfl rfl ?_
 refine yL rfl rfl rfl ?_
 refine aa rfl (cc rfl rfl (List.length_map _)) ?_
 refine yM rfl rfl ?_
 refine yN ?_
 dsimp only [St.put]
 refine K4 _ ?_
 refine cd ?_
 refine du 20 ?_
 refine zQ ?_
 refine fa (G) zX ?_
 dsimp only
 refine et (X := Nat) (fun k => k ≤ p.pages.length) (fun k => p.pages.length - k) (fun k => [(8, .v (.int .i64 ((d7 (p.pages.take k) (gd b (i : Int)) : Nat) : Int))), (9, .v (.int .i64 ((d7 (p.pages.take k) (g5 p.text b (i : Int)) : Nat) : Int))), (10, .any), (11, .any), (19, .v (.int .i64 (k : Int)))]) (fun k G' => G') 0 rfl ?_ ?_ (fun _ _ h => h) ?_ ?_ ?_
 ·exact Nat.zero_le _
 ·exact zF
 ·rintro k hI
  exact zL
 ·exact fun _ _ _ _ h => .inl h
 rintro k hI
 dsimp only at hI ⊢
 refine yS fun _ K5 => ?_
 refine yR ?_
 refine aa rfl (dp rfl rfl rfl) ?_
 refine yN ?_
 dsimp only [St.put]
 refine K5 _ ?_
 refine yS fun _ K6 => ?_
 refine bc rfl (fun hc => ?_) (fun hc => ?_)
 ·replace hc := of_decide_eq_true hc
  obtain ⟨x, hx⟩ : ∃ x, p.pages[k]? = some x := fl (by omega)
  have hax : (p.pages.map (ed p.text))[k]? = some (ed p.text x) := by rw [List.getElem?_map, hx]; rfl
  have hp := pageB_true.1 (h.page k x hx)
  have hfd : (cw b x).length ≤ 600 := by
   have hfl := nl hp.found
   have hwl := nl hp.well
   cases b
   ·show x.found.length ≤ 600
    omega
   show x.well.length ≤ 600
   omega
  have hgl := ui p.text x
  have ht1 := yn (l := p.pages) (g := gd b (i : Int)) k
  have ht2 := yn (l := p.pages) (g := g5 p.text b (i : Int)) k
  refine bi ?_
  refine K6 _ ?_
  refine yS fun _ K7 => ?_
  refine cd ?_
  refine yS fun _ K8 => ?_
  refine yR ?_
  refine yM rfl rfl ?_
  refine aa rfl (c5 rfl rfl rfl rfl (c7 (by assumption)) (Enc.len _)) ?_
  refine yE rfl rfl rfl ?_
  try dsimp only [St.put]
  refine ab rfl (dg rfl ?_)
  refine yA rfl rfl ?_
  try dsimp only [St.put]
  refine ab rfl (cn rfl rfl rfl zG rfl rfl (by rfl) ?_)
  refine yN ?_
  dsimp only [St.put]
  refine K8 _ ?_
  refine fj (i := 11) rfl zG zC ?_
  dsimp only
  refine yS fun _ K9 => ?_
  refine yR ?_
  refine yF rfl rfl rfl rfl ?_
  refine yL rfl rfl rfl ?_
  refine yE rfl rfl rfl ?_
  try dsimp only [St.put]
  refine ab rfl (az rfl rfl rfl (vv b x) ?_)
  refine yM rfl rfl ?_
  refine aa rfl (eh rfl rfl rfl) ?_
  refine yN ?_
  dsimp only [St.put]
  refine K9 _ ?_
  refine bc rfl (fun hc => ?_) (fun hc => ?_)
  ·have hyes : eu b x = (i : Int) := of_decide_eq_true hc
   refine yS fun _ K10 => ?_
   refine yR ?_
   refine yM rfl rfl ?_
   refine yF rfl rfl rfl rfl ?_
   refine yL rfl rfl rfl ?_
   refine yE rfl rfl rfl ?_
   try dsimp only [St.put]
   refine ab rfl (az rfl rfl rfl (y7 b x) ?_)
   refine aa rfl (cc rfl rfl (List.length_map _)) ?_
   refine aa rfl (ct rfl rfl rfl (by omega)) ?_
   refine yA rfl rfl ?_
   refine yN ?_
   dsimp only [St.put]
   refine K10 _ ?_
   refine yR ?_
   refine yM rfl rfl ?_
   refine yM rfl rfl ?_
   refine aa rfl (j3 rfl rfl) ?_
   refine yF rfl rfl rfl rfl ?_
   refine yL rfl rfl rfl ?_
   refine yM rfl rfl ?_
   refine aa rfl (c5 rfl rfl rfl rfl (c7 (by assumption)) (Enc.len _)) ?_
   refine yL rfl rfl rfl ?_
   refine aa rfl (cc rfl rfl (List.length_map _)) ?_
   refine aa rfl (ct rfl rfl rfl (by omega)) ?_
   refine yA rfl rfl ?_
   refine yN ?_
   dsimp only [St.put]
   refine K7 _ ?_
   refine yR ?_
   refine aa rfl (ct rfl rfl rfl (by omega)) ?_
   refine yM rfl rfl ?_
   refine yN ?_
   dsimp only [St.put]
   have e1 := qv (g := gd b (i : Int)) hx
   have e2 := qv (g := g5 p.text b (i : Int)) hx
   first
   | (have z : eu b x = (i : Int) := hyes
      rw [show ((d7 (p.pages.take k) (gd b (i : Int)) : Nat) : Int) + ((cw b x).length : Int) = ((d7 (p.pages.take (k + 1)) (gd b (i : Int)) : Nat) : Int) by rw [e1]; unfold gd; rw [decide_eq_true z, cond_true]; rfl, show ((d7 (p.pages.take k) (g5 p.text b (i : Int)) : Nat) : Int) + ((ed p.text x).length : Int) = ((d7 (p.pages.take (k + 1)) (g5 p.text b (i : Int)) : Nat) : Int) by rw [e2]; unfold g5; rw [decide_eq_true z, cond_true]; rfl]
      exact ⟨k + 1, by omega, by omega, ⟨⟨rfl, rfl⟩, zF, zB, zN, zX⟩⟩)
   | (have z : ¬ eu b x = (i : Int) := hno
      rw [show d7 (p.pages.take k) (gd b (i : Int)) = d7 (p.pages.take (k + 1)) (gd b (i : Int)) by rw [e1]; unfold gd; rw [decide_eq_false z]; rfl, show d7 (p.pages.take k) (g5 p.text b (i : Int)) = d7 (p.pages.take (k + 1)) (g5 p.text b (i : Int)) by rw [e2]; unfold g5; rw [decide_eq_false z]; rfl]
      exact ⟨k + 1, by omega, by omega, ⟨⟨rfl, rfl⟩, zF, zB, zN, zX⟩⟩)
  have hno : ¬ eu b x = (i : Int) := of_decide_eq_false hc
  refine bi ?_
  refine K7 _ ?_
  refine yR ?_
  refine aa rfl (ct rfl rfl rfl (by omega)) ?_
  refine yM rfl rfl ?_
  refine yN ?_
  dsimp only [St.put]
  have e1 := qv (g := gd b (i : Int)) hx
  have e2 := qv (g := g5 p.text b (i : Int)) hx
  first
  | (have z : eu b x = (i : Int) := hyes
     rw [show ((d7 (p.pages.take k) (gd b (i : Int)) : Nat) : Int) + ((cw b x).length : Int) = ((d7 (p.pages.take (k + 1)) (gd b (i : Int)) : Nat) : Int) by rw [e1]; unfold gd; rw [decide_eq_true z, cond_true]; rfl, show ((d7 (p.pages.take k) (g5 p.text b (i : Int)) : Nat) : Int) + ((ed p.text x).length : Int) = ((d7 (p.pages.take (k + 1)) (g5 p.text b (i : Int)) : Nat) : Int) by rw [e2]; unfold g5; rw [decide_eq_true z, cond_true]; rfl]
     exact ⟨k + 1, by omega, by omega, ⟨⟨rfl, rfl⟩, zF, zB, zN, zX⟩⟩)
  | (have z : ¬ eu b x = (i : Int) := hno
     rw [show d7 (p.pages.take k) (gd b (i : Int)) = d7 (p.pages.take (k + 1)) (gd b (i : Int)) by rw [e1]; unfold gd; rw [decide_eq_false z]; rfl, show d7 (p.pages.take k) (g5 p.text b (i : Int)) = d7 (p.pages.take (k + 1)) (g5 p.text b (i : Int)) by rw [e2]; unfold g5; rw [decide_eq_false z]; rfl]
     exact ⟨k + 1, by omega, by omega, ⟨⟨rfl, rfl⟩, zF, zB, zN, zX⟩⟩)
 replace hc := of_decide_eq_false hc
 obtain rfl : k = p.pages.length := by omega
 rw [iy (Nat.le_refl p.pages.length)]
 refine el ?_
 refine K3 _ ?_
 refine yS fun _ K11 => ?_
 refine ia [(0, none), (1, none), (2, none), (3, none), (4, none), (5, none), (6, none), (7, none), (9, none), (8, none), (10, none), (11, none), (12, none), (13, none), (14, none), (15, none)] (fun i => [8, 12].contains i) (fun i => [8, 12].contains i) (fun i => [0, 1, 2, 4, 5, 6, 9, 10, 11, 13, 14, 15].contains i) [] (by kernel_rfl) (by kernel_rfl) ?_
 refine xM rfl rfl rfl rfl rfl ?_
 refine ai rfl rfl rfl rfl (wy rfl rfl rfl (by omega)) ?_
 refine ai rfl rfl rfl rfl (c6 rfl rfl rfl) ?_
 try dsimp only [St.put]
 refine ak rfl rfl rfl rfl (bw rfl rfl) ?_
 refine xM rfl rfl rfl rfl rfl ?_
 refine ai rfl rfl rfl rfl (j3 rfl rfl) ?_
 refine ai rfl rfl rfl rfl (c6 rfl rfl rfl) ?_
 try dsimp only [St.put]
 refine ak rfl rfl rfl rfl (c := val p) (kn (cs := jo p) rfl rfl (show 4 ≤ 7 by decide)) ?_
 refine xM rfl rfl rfl rfl rfl ?_
 refine jb ?_
 try dsimp only [St.put]
 refine gz rfl rfl rfl rfl (az rfl rfl rfl (m7 b p) ?_)
 try dsimp only [St.put]
 refine ef rfl rfl rfl rfl (c5 rfl rfl rfl rfl (c7 (by assumption)) (Enc.len _)) ?_
 refine ef rfl rfl rfl rfl (c6 rfl rfl rfl) ?_
 try dsimp only [St.put]
 refine gz rfl rfl rfl rfl (SStep.e' (D := fun _ => True) (bw rfl rfl) ?_)
 refine ef rfl rfl rfl rfl (je rfl rfl rfl (by omega)) ?_
 refine ef rfl rfl rfl rfl (wx rfl rfl rfl (by omega) (by omega)) ?_
 refine ef rfl rfl rfl rfl (bq rfl (by constructor)) ?_
 refine ja ?_
 dsimp only [St.put]
 rw [show (100 * ((d7 p.pages (gd b (i : Int)) : Nat) : Int)) / (100 - r.miss) = mu p b i by unfold mu; rw [hmr]]
 have hbd := ucy h b i
 refine K11 _ ?_
 refine yS fun _ K12 => ?_
 refine yR ?_
 refine yM rfl rfl ?_
 refine yM rfl rfl ?_
 refine yM rfl rfl ?_
 refine aa rfl (je rfl rfl rfl (by omega)) ?_
 refine yA rfl rfl ?_
 refine yA rfl rfl ?_
 refine yN ?_
 dsimp only [St.put]
 refine K12 _ ?_
 refine ay ?_
 refine jj rfl (by constructor) (by constructor) zN zS ?_ ?_
 ·rfl
 exact vi (by unfold ng; rfl)
end Go.Proofs.YtgffhbbcpgdjjaaDoor
namespace Go.AB
open Go Go.RowKit
open Go.AB.Enc (cells)
open Go.PB (aq ah PlaceD av ax aw bg am af cb ba cr c4)
theorem ugk {p : af} (h : fk p) {j : Nat} {x : am} (hx : p.pages[j]? = some x) {k : Nat} (hk : k < (dd p x).length) : ∃ zn : Nat, (dd p x)[k]? = some (zn : Int) ∧ zn ≤ 6 := by
 have hp := pageB_true.1 (h.page j x hx)
 have h1 := hp.fst
 have h2 := hp.snd
 have h3 := h.nf
 have h4 := h.ns
 obtain ⟨z, hz⟩ : ∃ z, (dd p x)[k]? = some z := ⟨_, List.getElem?_eq_getElem hk⟩
 have hm := List.mem_of_getElem? hz
 have hb : 0 ≤ z ∧ z ≤ 6 := by
  unfold dd at hm
  rw [List.mem_append] at hm
  rcases hm with hm | hm
  ·by_cases q : 0 ≤ x.fst
   ·rw [decide_eq_true q, cond_true, List.mem_singleton] at hm; omega
   rw [decide_eq_false q] at hm; cases hm
  by_cases q : 0 ≤ x.snd
  ·rw [decide_eq_true q, cond_true, List.mem_singleton] at hm; omega
  rw [decide_eq_false q] at hm; cases hm
 exact ⟨z.toNat, by rw [hz]; congr 1; omega, by omega⟩
theorem v8 (p : af) (x : am) : (dd p x).length ≤ 2 := by
 unfold dd
 rw [List.length_append]
 cases decide (0 ≤ x.fst) <;> cases decide (0 ≤ x.snd) <;> simp
end Go.AB
namespace Go.Proofs.YtgffhbbcpgdjjaaDoor
set_option maxRecDepth 10000
open Go.RowKit Go.AB
open Go.AB.Enc (cells)
open Go.PB (aq ah PlaceD av ax aw bg am af cb ba cr c4)
end Go.Proofs.YtgffhbbcpgdjjaaDoor
namespace Go.Proofs.YtgffhbbcpgdjjaaDoor
set_option maxRecDepth 10000
open Go.RowKit Go.AB
open Go.AB.Enc (cells)
open Go.PB (aq ah PlaceD av ax aw bg am af cb ba cr c4)
end Go.Proofs.YtgffhbbcpgdjjaaDoor
namespace Go.AB
open Go Go.RowKit
open Go.AB.Enc (cells)
open Go.PB (aq ah PlaceD av ax aw)
end Go.AB
namespace Go.Proofs.YtgffhbbcpgdjjaaDoor
set_option maxRecDepth 10000
open Go.RowKit Go.AB
open Go.AB.Enc (cells)
open Go.PB (aq ah PlaceD av ax aw)
end Go.Proofs.YtgffhbbcpgdjjaaDoor
namespace Go.Proofs.YtgffhbbcpgdjjaaDoor
set_option maxRecDepth 10000
open Go.RowKit Go.AB
open Go.AB.Enc (cells)
open Go.PB (aq ah PlaceD av ax aw bg am af cb ba cr c4)
end Go.Proofs.YtgffhbbcpgdjjaaDoor
namespace Go.AB
open Go Go.RowKit
open Go.AB.Enc (cells)
open Go.PB (aq ah PlaceD av ax aw bg am af cb ba cr c4)
theorem zp {p : af} {j : Nat} {x : am} (h : p.pages[j]? = some x) : ri p j = lk p (ip p.pages j) x := by unfold ri; rw [h]
theorem uiv {l : List am} {j : Nat} {x : am} (h : l[j]? = some x) : ip l (j + 1) = x.to := by simp only [ip, h]
theorem ugq {p : af} {j : Nat} {x : am} (h : p.pages[j]? = some x) (hb : lk p (ip p.pages j) x = false) : jd p = false := by
 have : pk p p.pages.length = false := List.all_eq_false.2 ⟨j, List.mem_range.2 (List.getElem?_eq_some_iff.1 h).1, by rw [zp h, hb]; simp⟩
 simp [jd, this]
end Go.AB
namespace Go.Proofs.YtgffhbbcpgdjjaaDoor
set_option maxRecDepth 10000
open Go.RowKit Go.AB
open Go.AB.Enc (cells)
open Go.PB (aq ah PlaceD av ax aw bg am af cb ba cr c4)
end Go.Proofs.YtgffhbbcpgdjjaaDoor
namespace Go.AB
open Go Go.RowKit
open Go.AB.Enc (cells)
open Go.PB (aq ah PlaceD av ax aw bg am af cb ba cr c4)
theorem o6 {p : af} {n : Int} (h : dx p n = 0) : ck p = 0 ∧ ∃ (j : Nat) (x : am), n = (j : Int) ∧ p.pages[j]? = some x ∧ me p n = x := by
 unfold dx at h
 by_cases hc : ck p = 0
 ·rw [decide_eq_true hc, cond_true] at h
  cases hb : inB n 0 ((p.pages.length : Int) - 1)
  ·rw [hb] at h; cases h
  rw [inB_true] at hb
  obtain ⟨x, hx⟩ : ∃ x, p.pages[n.toNat]? = some x := ⟨_, List.getElem?_eq_getElem (show n.toNat < p.pages.length by omega)⟩
  exact ⟨hc, n.toNat, x, by omega, hx, by unfold me; rw [hx]; rfl⟩
 rw [decide_eq_false hc, cond_false] at h
 exact absurd h hc
end Go.AB
namespace Go.Proofs.YtgffhbbcpgdjjaaDoor
set_option maxRecDepth 10000
open Go.RowKit Go.AB
open Go.AB.Enc (cells)
open Go.PB (aq ah PlaceD av ax aw bg am af cb ba cr c4)
end Go.Proofs.YtgffhbbcpgdjjaaDoor
namespace Go.Proofs.YtgffhbbcpgdjjaaDoor
set_option maxRecDepth 10000
open Go.RowKit Go.AB
open Go.AB.Enc (cells)
open Go.PB (aq ah PlaceD av ax aw bg am af cb ba cr c4)
end Go.Proofs.YtgffhbbcpgdjjaaDoor
namespace Go.Proofs.YtgffhbbcpgdjjaaDoor
set_option maxRecDepth 10000
open Go.RowKit Go.AB
open Go.AB.Enc (cells)
open Go.PB (aq ah PlaceD av ax aw bg am af cb ba cr c4)
end Go.Proofs.YtgffhbbcpgdjjaaDoor
namespace Go.Proofs.YtgffhbbcpgdjjaaDoor
set_option maxRecDepth 10000
open Go.RowKit Go.AB
open Go.AB.Enc (cells)
open Go.PB (aq ah PlaceD av ax aw bg am af cb ba cr c4)
end Go.Proofs.YtgffhbbcpgdjjaaDoor
namespace Go.AB
open Go Go.RowKit
open Go.AB.Enc (cells)
open Go.PB (aq ah PlaceD av ax aw bg am af cb ba)
/-! ### First and second readers change their places -/
/-! ### Errors that are missed -/
end Go.AB
namespace Go.AB
open Go Go.RowKit
open Go.AB.Enc (cells)
open Go.PB (aq ah PlaceD av ax aw bg am af cb ba cr c4)
def pr (R : Nat → Int) (c : Int) (l : List Int) : Int := l.foldl (fun n z => min n (R z.toNat)) c
def j0 (R : Nat → Int) (n : Int) (l : List Int) : Nat → Int := l.foldl (fun R z => fun i => bif decide (i = z.toNat) then R z.toNat - n else R i) R
theorem ue5 (R : Nat → Int) (n : Int) : j0 R n [] = R := rfl
theorem uh4 {R : Nat → Int} {c : Int} {l : List Int} {k : Nat} {z : Int} (h : l[k]? = some z) : pr R c (l.take (k + 1)) = min (pr R c (l.take k)) (R z.toNat) := by
 unfold pr; rw [List.take_add_one, h, Option.toList_some, List.foldl_append]; rfl
theorem ue4 {R : Nat → Int} {n : Int} {l : List Int} {k : Nat} {z : Int} (h : l[k]? = some z) : j0 R n (l.take (k + 1)) = fun i => bif decide (i = z.toNat) then j0 R n (l.take k) z.toNat - n else j0 R n (l.take k) i := by
 unfold j0; rw [List.take_add_one, h, Option.toList_some, List.foldl_append]; rfl
theorem uk0 {p : af} {j : Nat} {x : am} (hx : p.pages[j]? = some x) (R C : Nat → Int) : (bk p).alone R C j = pr R (C j) (dd p x) := by
 simp only [Net.alone, bk, hx, dd, pr]
 by_cases q1 : 0 ≤ x.fst <;> by_cases q2 : 0 ≤ x.snd
 ·simp [q1, q2, mi, show ((p.firsts.length : Int) + x.snd).toNat = p.firsts.length + x.snd.toNat by omega]
 ·simp [q1, q2, mi]
 ·simp [q1, q2, mi, show ((p.firsts.length : Int) + x.snd).toNat = p.firsts.length + x.snd.toNat by omega]
 ·simp [q1, q2, mi]
theorem uii {p : af} (h : fk p) {j : Nat} {x : am} (hx : p.pages[j]? = some x) (R : Nat → Int) (n : Int) : (bk p).lessR R j n = j0 R n (dd p x) := by
 have hp := pageB_true.1 (h.page j x hx)
 have h1 := hp.fst
 have h2 := hp.snd
 funext i
 simp only [Net.lessR, Net.by, bk, hx, dd, j0]
 by_cases q1 : 0 ≤ x.fst <;> by_cases q2 : 0 ≤ x.snd
 ·have e2 : ((p.firsts.length : Int) + x.snd).toNat = p.firsts.length + x.snd.toNat := by omega
  have hne : ¬ p.firsts.length + x.snd.toNat = x.fst.toNat := by omega
  rw [decide_eq_true q1, decide_eq_true q2]
  simp only [cond_true, List.cons_append, List.nil_append, List.foldl_cons, List.foldl_nil, e2, Option.some.injEq]
  by_cases z1 : i = x.fst.toNat
  ·have z2 : ¬ i = p.firsts.length + x.snd.toNat := by omega
   simp [z1.symm, z2, Ne.symm z2]
  ·by_cases z2 : i = p.firsts.length + x.snd.toNat
   ·simp [z1, Ne.symm z1, z2, hne, Ne.symm hne]
   ·simp [z1, Ne.symm z1, z2, Ne.symm z2]
 ·rw [decide_eq_true q1, decide_eq_false q2]
  simp only [cond_true, cond_false, List.append_nil, List.foldl_cons, List.foldl_nil, Option.some.injEq]
  by_cases z1 : i = x.fst.toNat
  ·simp [z1]
  ·simp [z1, Ne.symm z1]
 ·have e2 : ((p.firsts.length : Int) + x.snd).toNat = p.firsts.length + x.snd.toNat := by omega
  rw [decide_eq_false q1, decide_eq_true q2]
  simp only [cond_true, cond_false, List.nil_append, List.foldl_cons, List.foldl_nil, e2, Option.some.injEq]
  by_cases z2 : i = p.firsts.length + x.snd.toNat
  ·simp [z2]
  ·simp [z2, Ne.symm z2]
 ·rw [decide_eq_false q1, decide_eq_false q2]
  simp
theorem x4 {p : af} {R C : Nat → Int} (hB : Bd p R C) {j : Nat} {n : Int} (h0 : 0 ≤ n) (hn : n ≤ (bk p).alone R C j) : Bd p ((bk p).lessR R j n) (d9 C j) := by
 refine ⟨fun i => ?_, fun k => ?_, hB.nr, hB.np⟩
 ·unfold Net.lessR
  cases hb : (bk p).by j i
  ·exact hB.r i
  ·have h1 := (Net.le_alone.1 hn).2 i hb
   have h2 := hB.r i
   show -1000000 ≤ R i - n ∧ R i - n ≤ 1000000
   omega
 ·unfold d9
  cases decide (k = j)
  ·exact hB.c k
  ·exact ⟨Int.le_refl _, by show (0 : Int) ≤ 1000000; omega⟩
/-- what is above has been looked at -/
def FromTop (p : af) (R C : Nat → Int) (j : Nat) (n : Int) : Prop := (bk p).pick R C j ≤ n ∧ n ≤ (bk p).alone R C j ∧ ∀ m, n < m → m ≤ (bk p).alone R C j → ¬ (bk p).most R C ≤ m + (bk p).most ((bk p).lessR R j m) (d9 C j)
theorem FromTop.start {p : af} {R C : Nat → Int} {j : Nat} (h : (bk p).Pick R C j ((bk p).pick R C j)) : FromTop p R C j ((bk p).alone R C j) := ⟨h.le, Int.le_refl _, fun m h1 h2 => by omega⟩
theorem FromTop.stop {p : af} {R C : Nat → Int} {j : Nat} {n : Int} (h : (bk p).Pick R C j ((bk p).pick R C j)) (k : FromTop p R C j n) (hs : (bk p).most R C ≤ n + (bk p).most ((bk p).lessR R j n) (d9 C j)) : n = (bk p).pick R C j :=
 Net.Pick.uniq ⟨Int.le_trans h.nn k.1, k.2.1, hs, k.2.2⟩ h
theorem FromTop.down {p : af} {R C : Nat → Int} {j : Nat} {n : Int} (h : (bk p).Pick R C j ((bk p).pick R C j)) (k : FromTop p R C j n) (hs : ¬ (bk p).most R C ≤ n + (bk p).most ((bk p).lessR R j n) (d9 C j)) : FromTop p R C j (n - 1) := by
 refine ⟨?_, by have := k.2.1; omega, fun m h1 h2 => ?_⟩
 ·have h1 := k.1
  by_cases e : n = (bk p).pick R C j
  ·subst e
   exact absurd h.ok hs
  ·omega
 ·by_cases e : m = n
  ·subst e; exact hs
  ·exact k.2.2 m (by omega) h2
end Go.AB
namespace Go.AB
open Go Go.RowKit
open Go.AB.Enc (cells)
section
variable {P : Program} {o : Oper} {st : St} {K : St → Prop}
end
end Go.AB
namespace Go.AB
open Go Go.RowKit
open Go.AB.Enc (cells)
variable {ρ : Option Nat}
section
variable {P : Program} {Q : Exit → St → Prop} {st : St}
end
section
variable {P : Program} {o : Oper} {st : St} {K : St → Prop}
end
end Go.AB
namespace Go.AB
open Go Go.RowKit
/-- What stands in a slot is known less well. -/
theorem uu {ρ : Option Nat} {P : Program} {Q : Exit → St → Prop} {st : St} {x : Code} (i : Nat) {c : C} (c' : C) (h0 : st.at i = c) (hw : Wk c c') (h : AW ρ P x Q { st with r := (i, c') :: st.r }) : AW ρ P x Q st := by
 intro E w a hs
 have hp := hs.at i
 rw [h0] at hp
 refine h E w a ⟨hs.d, hs.sz, fun j v hj => ?_, hs.g⟩
 simp only [ca]
 cases hb : Nat.beq i j
 ·exact hs.t j v hj
 ·have hij := Nat.eq_of_beq_eq_true hb
  subst hij
  have hv : a.tmps.getD i undef = v := by rw [Array.getD_eq_getD_getElem?, hj]; rfl
  rw [hv] at hp
  exact hw.2 _ _ _ hp
end Go.AB
namespace Go.AB
open Go Go.RowKit
open Go.AB.Enc (cells)
open Go.PB (aq ah PlaceD av ax aw bg am af cb ba cr c4)
theorem ujc {l : List Int} {k : Nat} {z : Int} (h : l[k]? = some z) : (cp l)[k]? = some (.v (.int .i64 z)) := by
 have e : cp l = l.map fun y => .v (.int .i64 y) := by
  clear h
  induction l with
  | nil => rfl
  | cons y l ih =>
   have h1 : cp (y :: l) = cells y ++ cp l := by simp [cp]
   rw [h1, ih]; rfl
 rw [e, List.getElem?_map, h]; rfl
end Go.AB
namespace Go.Proofs.YtgffhbbcpgdjjaaDoor
set_option maxRecDepth 10000
open Go.RowKit Go.AB
open Go.AB.Enc (cells)
open Go.PB (aq ah PlaceD av ax aw bg am af cb ba cr c4)
theorem v7 {p : af} (h : fk p) {j : Nat} {x : am} (hx : p.pages[j]? = some x) {k : Nat} (hk : k < (dd p x).length) : ∃ zn : Nat, (dd p x)[k]? = some (zn : Int) ∧ zn < bu p := by
 have hp := pageB_true.1 (h.page j x hx)
 have h1 := hp.fst
 have h2 := hp.snd
 obtain ⟨z, hz⟩ : ∃ z, (dd p x)[k]? = some z := ⟨_, List.getElem?_eq_getElem hk⟩
 have hm := List.mem_of_getElem? hz
 have hb : 0 ≤ z ∧ z < (bu p : Int) := by
  unfold dd at hm
  unfold bu
  rw [List.mem_append] at hm
  rcases hm with hm | hm
  ·by_cases q : 0 ≤ x.fst
   ·rw [decide_eq_true q, cond_true, List.mem_singleton] at hm; omega
   rw [decide_eq_false q] at hm; cases hm
  by_cases q : 0 ≤ x.snd
  ·rw [decide_eq_true q, cond_true, List.mem_singleton] at hm; omega
  rw [decide_eq_false q] at hm; cases hm
 exact ⟨z.toNat, by rw [hz]; congr 1; omega, by omega⟩
end Go.Proofs.YtgffhbbcpgdjjaaDoor
namespace Go.AB
open Go Go.RowKit
open Go.AB.Enc (cells)
open Go.PB (aq ah PlaceD av ax aw bg am af cb ba cr c4)
theorem uc5 (r : Int) (s i : Nat) : r * ((s / 2 ^ i % 2 : Nat) : Int) = bif s.testBit i then r else 0 := by
 have h2 : s / 2 ^ i % 2 < 2 := Nat.mod_lt _ (by omega)
 cases hb : s.testBit i
 ·have : s / 2 ^ i % 2 = 0 := by
   have : ¬ ((s / 2 ^ i % 2 : Nat) : Int) = 1 := fun e => by
    have := bit_eq.1 e
    rw [hb] at this; cases this
   omega
  rw [this]; simp
 have : s / 2 ^ i % 2 = 1 := by have := bit_eq.2 hb; omega
 rw [this]; simp
theorem uko (s i : Nat) : decide (((s / 2 ^ i % 2 : Nat) : Int) = 1) = s.testBit i := by
 rw [Bool.eq_iff_iff, decide_eq_true_eq]
 exact bit_eq
theorem ugl {p : af} (h : fk p) {j : Nat} {x : am} (hx : p.pages[j]? = some x) {z : Int} (hz : z ∈ dd p x) : ∃ zn : Nat, z = (zn : Int) ∧ zn ≤ 6 := by
 obtain ⟨k, hk⟩ := List.getElem?_of_mem hz
 obtain ⟨zn, h1, h2⟩ := ugk h hx (List.getElem?_eq_some_iff.1 hk).1
 rw [hk] at h1
 cases h1
 exact ⟨zn, rfl, h2⟩
theorem tg {p : af} {j : Nat} {x : am} (hx : p.pages[j]? = some x) : (p.pages.map (dd p))[j]? = some (dd p x) := by rw [List.getElem?_map, hx]; rfl
end Go.AB
namespace Go.Proofs.YtgffhbbcpgdjjaaDoor
set_option maxRecDepth 10000
open Go.RowKit Go.AB
open Go.AB.Enc (cells)
open Go.PB (aq ah PlaceD av ax aw bg am af cb ba cr c4)
theorem ug4 (k s : Nat) (hk : k ≤ 64) (hs : s ≤ 1000) : Pure Tryd.prog 85 [.v (.int .i64 (k : Int)), .elem [.v (.int .i64 (s : Int))]] (.v (.bool (s.testBit k))) := by
 refine dr Tryd.func85 rfl (fun m => .v) fun G nx => ?_
 simp only [Tryd.ntmps85, List.length_cons, List.length_nil, Nat.reduceAdd, Nat.reduceSub]
 refine bv fun hlt => ?_
 dsimp only at hlt
 refine yS fun _ K1 => ?_
 refine yR ?_
 refine yA rfl rfl ?_
 refine yN ?_
 dsimp only [St.put]
 refine K1 _ ?_
 refine yS fun _ K2 => ?_
 refine yR ?_
 refine yL rfl rfl rfl ?_
 refine yM rfl rfl ?_
 refine aa rfl (ww (m := s) (n := k) rfl rfl rfl hk (by show (s : Int) ≤ 9223372036854775807; omega) (by decide)) ?_
 refine aa rfl (wz (m := s / 2 ^ k) rfl rfl rfl (Nat.lt_of_le_of_lt (Nat.div_le_self _ _) (by show s < 2 ^ 64; omega)) (by decide)) ?_
 refine aa rfl (eh rfl rfl rfl) ?_
 refine yA rfl rfl ?_
 refine yN ?_
 dsimp only [St.put]
 refine K2 _ ?_
 refine ay ?_
 refine cg rfl (by constructor) zN zS ?_
 exact vb (uko s k)
set_option maxHeartbeats 1000000 in
theorem zv (p : af) (R C : Nat → Int) (s : Nat) (h : fk p) (hB : Bd p R C) (hs : s ≤ 1000) : Pure Tryd.prog 62 [val (fq p R C), .v (.int .i64 (s : Int))] (.v (.int .i64 ((bk p).f R C fun i => s.testBit i))) := by
 refine dr Tryd.func62 rfl (fun m => .v) fun G nx => ?_
 simp only [Tryd.ntmps62, List.length_cons, List.length_nil, Nat.reduceAdd, Nat.reduceSub]
 refine bv fun hlt => ?_
 dsimp only at hlt
 have hnr := hB.nr
 have hnp := hB.np
 have hl1 := iz (bu p) R
 have hl2 := iz p.pages.length C
 refine yS fun _ K1 => ?_
 refine yR ?_
 try dsimp only [St.put]
 refine yB rfl rfl rfl ?_
 try dsimp only [St.put]
 refine yB rfl rfl rfl ?_
 refine yA rfl rfl ?_
 refine yN ?_
 dsimp only [St.put]
 refine K1 _ ?_
 refine yS fun _ K2 => ?_
 refine yR ?_
 refine yA rfl rfl ?_
 refine yN ?_
 dsimp only [St.put]
 refine K2 _ ?_
 refine yS fun _ K3 => ?_
 refine yS fun _ K4 => ?_
 refine yR ?_
 refine yF rfl rfl rfl rfl ?_
 refine yL rfl rfl rfl ?_
 refine aa rfl (cc rfl rfl (List.length_map _)) ?_
 refine yM rfl rfl ?_
 refine yN ?_
 dsimp only [St.put]
 refine K4 _ ?_
 refine cd ?_
 refine du 14 ?_
 refine zQ ?_
 refine fa (G) zX ?_
 dsimp only
 refine et (X := Nat) (fun i => i ≤ bu p) (fun i => bu p - i) (fun i => [(5, .v (.int .i64 (fR R (fun i => s.testBit i) i))), (6, .any), (7, .any), (13, .v (.int .i64 (i : Int)))]) (fun i G' => G') 0 rfl ?_ ?_ (fun _ _ h => h) ?_ ?_ ?_
 ·exact Nat.zero_le _
 ·exact zF
 ·rintro i hI
  exact zL
 ·exact fun _ _ _ _ h => .inl h
 rintro i hI
 dsimp only at hI ⊢
 refine yS fun _ K5 => ?_
 refine yR ?_
 refine aa rfl (dp rfl rfl rfl) ?_
 refine yN ?_
 dsimp only [St.put]
 refine K5 _ ?_
 refine yS fun _ K6 => ?_
 refine bc rfl (fun hc => ?_) (fun hc => ?_)
 ·replace hc := of_decide_eq_true hc
  have hi : i < bu p := by
   have : (i : Int) < ((ce (bu p) R).length : Int) := hc
   rw [hl1] at this
   omega
  have hRi := lh R hi
  have hbd := xn hB (fun i => s.testBit i) i (by omega)
  have hrb := hB.r i
  have hmb : -1000000 ≤ R i * ((s / 2 ^ i % 2 : Nat) : Int) ∧ R i * ((s / 2 ^ i % 2 : Nat) : Int) ≤ 1000000 := by
   rw [uc5]
   cases s.testBit i
   ·show -1000000 ≤ (0 : Int) ∧ (0 : Int) ≤ 1000000
    omega
   exact hrb
  refine bi ?_
  refine K6 _ ?_
  refine yS fun _ K7 => ?_
  refine cd ?_
  refine yS fun _ K8 => ?_
  refine yR ?_
  refine yM rfl rfl ?_
  refine aa rfl (c5 rfl rfl rfl rfl (c7 (by assumption)) (Enc.len _)) ?_
  refine yL rfl rfl rfl ?_
  refine yA rfl rfl ?_
  refine yA rfl rfl ?_
  refine yN ?_
  dsimp only [St.put]
  refine K8 _ ?_
  refine yR ?_
  refine yM rfl rfl ?_
  refine yM rfl rfl ?_
  refine yL rfl rfl rfl ?_
  refine yM rfl rfl ?_
  refine aa rfl (ww (m := s) (n := i) rfl rfl rfl (by show i ≤ 64; omega) (by show (s : Int) ≤ 9223372036854775807; omega) (by decide)) ?_
  refine aa rfl (wz (m := s / 2 ^ i) rfl rfl rfl (Nat.lt_of_le_of_lt (Nat.div_le_self _ _) (by show s < 2 ^ 64; omega)) (by decide)) ?_
  refine aa rfl (wy rfl rfl rfl (by omega)) ?_
  refine aa rfl (ct rfl rfl rfl (by omega)) ?_
  refine yA rfl rfl ?_
  refine yN ?_
  dsimp only [St.put]
  refine K7 _ ?_
  refine yR ?_
  refine aa rfl (ct rfl rfl rfl (by omega)) ?_
  refine yM rfl rfl ?_
  refine yN ?_
  dsimp only [St.put]
  rw [uc5, ← ujh R (fun i => s.testBit i) i]
  exact ⟨i + 1, by omega, by omega, ⟨⟨rfl, rfl⟩, zF, zB, zN, zX⟩⟩
 replace hc := of_decide_eq_false hc
 obtain rfl : i = bu p := by
  have : ¬ (i : Int) < ((ce (bu p) R).length : Int) := hc
  rw [hl1] at this
  omega
 have hfr := xn hB (fun i => s.testBit i) _ (Nat.le_refl (bu p))
 obtain ⟨FR, hFR⟩ : ∃ FR, fR R (fun i => s.testBit i) (bu p) = FR := ⟨_, rfl⟩
 rw [hFR] at hfr
 refine el ?_
 refine K3 _ ?_
 refine yS fun _ K9 => ?_
 refine yS fun _ K10 => ?_
 refine yR ?_
 refine yF rfl rfl rfl rfl ?_
 refine yL rfl rfl rfl ?_
 refine aa rfl (cc rfl rfl (List.length_map _)) ?_
 refine yM rfl rfl ?_
 refine yN ?_
 dsimp only [St.put]
 rw [hFR, show FR = FR + fC p C (fun i => s.testBit i) 0 by show FR = FR + 0; omega]
 refine K10 _ ?_
 refine cd ?_
 refine du 31 ?_
 refine zQ ?_
 refine fa (G) zX ?_
 dsimp only
 refine et (X := Nat) (fun j => j ≤ p.pages.length) (fun j => p.pages.length - j) (fun j => [(5, .v (.int .i64 (FR + fC p C (fun i => s.testBit i) j))), (8, .any), (9, .any), (30, .v (.int .i64 (j : Int)))]) (fun j G' => G') 0 rfl ?_ ?_ (fun _ _ h => h) ?_ ?_ ?_
 ·exact Nat.zero_le _
 ·exact zF
 ·rintro j hI
  exact zL
 ·exact fun _ _ _ _ h => .inl h
 rintro j hJ
 dsimp only at hJ ⊢
 refine yS fun _ K11 => ?_
 refine yR ?_
 refine aa rfl (dp rfl rfl rfl) ?_
 refine yN ?_
 dsimp only [St.put]
 refine K11 _ ?_
 refine yS fun _ K12 => ?_
 refine bc rfl (fun hc => ?_) (fun hc => ?_)
 ·replace hc := of_decide_eq_true hc
  have hj : j < p.pages.length := by
   have : (j : Int) < ((ce p.pages.length C).length : Int) := hc
   rw [hl2] at this
   omega
  obtain ⟨x, hx⟩ : ∃ x, p.pages[j]? = some x := fl hj
  have hrx := tg hx
  have hCj := lh C hj
  have hcb := hB.c j
  have hfc := ub8 hB (fun i => s.testBit i) j (by omega)
  have hhit := ui2 hx fun i => s.testBit i
  refine bi ?_
  refine K12 _ ?_
  refine yS fun _ K13 => ?_
  refine cd ?_
  refine yS fun _ K14 => ?_
  refine yR ?_
  refine yM rfl rfl ?_
  refine aa rfl (c5 rfl rfl rfl rfl (c7 (by assumption)) (Enc.len _)) ?_
  refine yL rfl rfl rfl ?_
  refine yA rfl rfl ?_
  refine yA rfl rfl ?_
  refine yN ?_
  dsimp only [St.put]
  refine K14 _ ?_
  refine yS fun _ K15 => ?_
  refine yR ?_
  refine yF rfl rfl rfl rfl ?_
  refine yL rfl rfl rfl ?_
  refine yM rfl rfl ?_
  refine aa rfl (c5 rfl rfl rfl rfl (c7 (by assumption)) (Enc.len _)) ?_
  refine yL rfl rfl rfl ?_
  refine aa rfl (oq rfl rfl) ?_
  try dsimp only [St.put]
  refine ab rfl (az rfl rfl rfl (u6 (dd p x) (fun z => s.testBit z.toNat) _ _ fun z hz => by obtain ⟨zn, rfl, h6⟩ := ugl h hx hz; exact ug4 zn s (by omega) hs) ?_)
  refine aa rfl (ge rfl rfl) ?_
  refine yN ?_
  dsimp only [St.put]
  refine K15 _ ?_
  refine bc rfl (fun hc => ?_) (fun hc => ?_)
  ·have hhn : (bk p).hit (fun i => s.testBit i) j = false := by rw [hhit]; simpa using hc
   refine yR ?_
   refine yM rfl rfl ?_
   refine yM rfl rfl ?_
   refine aa rfl (ct rfl rfl rfl (by omega)) ?_
   refine yA rfl rfl ?_
   refine yN ?_
   dsimp only [St.put]
   refine K13 _ ?_
   refine yR ?_
   refine aa rfl (ct rfl rfl rfl (by omega)) ?_
   refine yM rfl rfl ?_
   refine yN ?_
   dsimp only [St.put]
   have e := ub7 p C (fun i => s.testBit i) j
   first
   | (have z : (bk p).hit (fun i => s.testBit i) j = true := hhy
      rw [z, cond_true, Int.add_zero] at e
      rw [← e]
      exact ⟨j + 1, by omega, by omega, ⟨⟨rfl, rfl⟩, zF, zB, zN, zX⟩⟩)
   | (have z : (bk p).hit (fun i => s.testBit i) j = false := hhn
      rw [z, cond_false] at e
      rw [Int.add_assoc, ← e]
      exact ⟨j + 1, by omega, by omega, ⟨⟨rfl, rfl⟩, zF, zB, zN, zX⟩⟩)
  have hhy : (bk p).hit (fun i => s.testBit i) j = true := by rw [hhit]; simpa using hc
  refine bi ?_
  refine K13 _ ?_
  refine yR ?_
  refine aa rfl (ct rfl rfl rfl (by omega)) ?_
  refine yM rfl rfl ?_
  refine yN ?_
  dsimp only [St.put]
  have e := ub7 p C (fun i => s.testBit i) j
  first
  | (have z : (bk p).hit (fun i => s.testBit i) j = true := hhy
     rw [z, cond_true, Int.add_zero] at e
     rw [← e]
     exact ⟨j + 1, by omega, by omega, ⟨⟨rfl, rfl⟩, zF, zB, zN, zX⟩⟩)
  | (have z : (bk p).hit (fun i => s.testBit i) j = false := hhn
     rw [z, cond_false] at e
     rw [Int.add_assoc, ← e]
     exact ⟨j + 1, by omega, by omega, ⟨⟨rfl, rfl⟩, zF, zB, zN, zX⟩⟩)
 replace hc := of_decide_eq_false hc
 obtain rfl : j = p.pages.length := by
  have : ¬ (j : Int) < ((ce p.pages.length C).length : Int) := hc
  rw [hl2] at this
  omega
 refine el ?_
 refine K9 _ ?_
 refine yS fun _ K16 => ?_
 refine yR ?_
 refine yM rfl rfl ?_
 refine yA rfl rfl ?_
 refine yN ?_
 dsimp only [St.put]
 refine K16 _ ?_
 refine ay ?_
 refine cg rfl (by constructor) zN zS ?_
 exact vi (by rw [ub3, hFR])
set_option maxHeartbeats 1000000 in
theorem rm (p : af) (R C : Nat → Int) (h : fk p) (hB : Bd p R C) : Pure Tryd.prog 52 [val (fq p R C)] (.v (.int .i64 ((bk p).most R C))) := by
 refine dr Tryd.func52 rfl (fun m => .v) fun G nx => ?_
 simp only [Tryd.ntmps52, List.length_cons, List.length_nil, Nat.reduceAdd, Nat.reduceSub]
 refine bv fun hlt => ?_
 dsimp only at hlt
 have hnr := hB.nr
 have hl1 := iz (bu p) R
 have h64 : 2 ^ bu p ≤ 2 ^ 6 := Nat.pow_le_pow_right (by omega) hnr
 have hpos : 0 < 2 ^ bu p := Nat.two_pow_pos _
 obtain ⟨g, hg⟩ : ∃ g : Nat → Int, (fun s => (bk p).f R C fun i => s.testBit i) = g := ⟨_, rfl⟩
 have hgs : ∀ s : Nat, (bk p).f R C (fun i => s.testBit i) = g s := fun s => congrFun hg s
 have hP : ∀ s : Nat, s ≤ 1000 → Pure Tryd.prog 62 [val (fq p R C), .v (.int .i64 (s : Int))] (.v (.int .i64 (g s))) := fun s hs => by
  have := zv p R C s h hB hs
  rwa [hgs] at this
 have hgb : ∀ s, -6000000 ≤ g s ∧ g s ≤ 14000000 := fun s => by rw [← hgs]; exact f_bd hB _
 refine yS fun _ K1 => ?_
 refine yR ?_
 try dsimp only [St.put]
 refine yB rfl rfl rfl ?_
 refine yA rfl rfl ?_
 refine yN ?_
 dsimp only [St.put]
 refine K1 _ ?_
 refine yS fun _ K2 => ?_
 refine yR ?_
 try dsimp only [St.put]
 refine ae rfl (c := val (fq p R C)) (kn (cs := cells (fq p R C)) rfl rfl (show 3 ≤ 3 by decide)) ?_
 try dsimp only [St.put]
 refine ab rfl (az rfl rfl rfl (hP 0 (by omega)) ?_)
 refine yA rfl rfl ?_
 refine yN ?_
 dsimp only [St.put]
 refine K2 _ ?_
 refine yS fun _ K3 => ?_
 refine yS fun _ K4 => ?_
 refine yR ?_
 refine yF rfl rfl rfl rfl ?_
 refine yL rfl rfl rfl ?_
 refine aa rfl (cc rfl rfl (List.length_map _)) ?_
 refine aa rfl (uap (n := (ce (bu p) R).length) rfl rfl rfl (by rw [hl1]; omega)) ?_
 refine yM rfl rfl ?_
 refine yN ?_
 dsimp only [St.put]
 refine K4 _ ?_
 refine cd ?_
 refine du 12 ?_
 refine zQ ?_
 refine fa (G) zX ?_
 dsimp only
 refine et (X := Nat) (fun s => s ≤ 2 ^ bu p) (fun s => 2 ^ bu p - s) (fun s => [(3, .v (.int .i64 (ke g s))), (4, .any), (11, .v (.int .i64 (s : Int)))]) (fun s G' => G') 0 rfl ?_ ?_ (fun _ _ h => h) ?_ ?_ ?_
 ·exact Nat.zero_le _
 ·exact zF
 ·rintro s hI
  exact zL
 ·exact fun _ _ _ _ h => .inl h
 rintro s hI
 dsimp only at hI ⊢
 refine yS fun _ K5 => ?_
 refine yR ?_
 refine aa rfl (dp rfl rfl rfl) ?_
 refine yN ?_
 dsimp only [St.put]
 refine K5 _ ?_
 refine yS fun _ K6 => ?_
 refine bc rfl (fun hc => ?_) (fun hc => ?_)
 ·replace hc := of_decide_eq_true hc
  have hlt : s < 2 ^ bu p := by
   have : (s : Int) < ((2 ^ (ce (bu p) R).length : Nat) : Int) := hc
   rw [hl1] at this
   omega
  have hmb := uaz hgb s
  have hgb1 := hgb s
  refine bi ?_
  refine K6 _ ?_
  refine yS fun _ K7 => ?_
  refine cd ?_
  refine yS fun _ K8 => ?_
  refine yR ?_
  refine yM rfl rfl ?_
  refine yA rfl rfl ?_
  refine yN ?_
  dsimp only [St.put]
  refine K8 _ ?_
  refine yR ?_
  refine yM rfl rfl ?_
  try dsimp only [St.put]
  refine ae rfl (c := val (fq p R C)) (kn (cs := cells (fq p R C)) rfl rfl (show 3 ≤ 3 by decide)) ?_
  refine yM rfl rfl ?_
  try dsimp only [St.put]
  refine ab rfl (az rfl rfl rfl (hP s (by omega)) ?_)
  refine aa rfl (uar rfl rfl rfl rfl) ?_
  refine yA rfl rfl ?_
  refine yN ?_
  dsimp only [St.put]
  refine K7 _ ?_
  refine yR ?_
  refine aa rfl (ct rfl rfl rfl (by omega)) ?_
  refine yM rfl rfl ?_
  refine yN ?_
  dsimp only [St.put]
  rw [show min (ke g s) (g s) = ke g (s + 1) from rfl]
  exact ⟨s + 1, by omega, by omega, ⟨⟨rfl, rfl⟩, zF, zB, zN, zX⟩⟩
 replace hc := of_decide_eq_false hc
 obtain rfl : s = 2 ^ bu p := by
  have : ¬ (s : Int) < ((2 ^ (ce (bu p) R).length : Nat) : Int) := hc
  rw [hl1] at this
  omega
 refine el ?_
 refine K3 _ ?_
 refine yS fun _ K9 => ?_
 refine yR ?_
 refine yM rfl rfl ?_
 refine yA rfl rfl ?_
 refine yN ?_
 dsimp only [St.put]
 refine K9 _ ?_
 refine ay ?_
 refine cg rfl (by constructor) zN zS ?_
 exact vi (by unfold Net.most; rw [hg]; rfl)
theorem zw (p : af) (R C : Nat → Int) (j : Nat) (x : am) (h : fk p) (hx : p.pages[j]? = some x) : Pure Tryd.prog 60 [val (fq p R C), .v (.int .i64 (j : Int))] (.v (.int .i64 ((bk p).alone R C j))) := by
 refine dr Tryd.func60 rfl (fun m => .v) fun G nx => ?_
 simp only [Tryd.ntmps60, List.length_cons, List.length_nil, Nat.reduceAdd, Nat.reduceSub]
 refine bv fun hlt => ?_
 dsimp only at hlt
 have hjl := (List.getElem?_eq_some_iff.1 hx).1
 have hCj := lh C hjl
 have hrx := tg hx
 have hn1 := h.nf
 have hn2 := h.ns
 have hnr : bu p = p.firsts.length + p.seconds.length := rfl
 have hrl := v8 p x
 refine yS fun _ K1 => ?_
 refine yR ?_
 try dsimp only [St.put]
 refine yB rfl rfl rfl ?_
 refine yA rfl rfl ?_
 refine yN ?_
 dsimp only [St.put]
 refine K1 _ ?_
 refine yS fun _ K2 => ?_
 refine yR ?_
 refine yF rfl rfl rfl rfl ?_
 refine yL rfl rfl rfl ?_
 refine yM rfl rfl ?_
 refine aa rfl (c5 rfl rfl rfl rfl (c7 (by assumption)) (Enc.len _)) ?_
 refine yL rfl rfl rfl ?_
 refine yA rfl rfl ?_
 refine yN ?_
 dsimp only [St.put]
 refine K2 _ ?_
 refine yS fun _ K3 => ?_
 refine yS fun _ K4 => ?_
 refine yR ?_
 refine yF rfl rfl rfl rfl ?_
 refine yL rfl rfl rfl ?_
 refine yM rfl rfl ?_
 refine aa rfl (c5 rfl rfl rfl rfl (c7 (by assumption)) (Enc.len _)) ?_
 refine yL rfl rfl rfl ?_
 refine aa rfl (cc rfl rfl (List.length_map _)) ?_
 refine yM rfl rfl ?_
 refine yN ?_
 dsimp only [St.put]
 refine K4 _ ?_
 refine cd ?_
 refine du 20 ?_
 refine zQ ?_
 refine fa (G) zX ?_
 dsimp only
 refine et (X := Nat) (fun k => k ≤ (dd p x).length) (fun k => (dd p x).length - k) (fun k => [(5, .v (.int .i64 (pr R (C j) ((dd p x).take k)))), (7, .any), (19, .v (.int .i64 (k : Int)))]) (fun k G' => G') 0 rfl ?_ ?_ (fun _ _ h => h) ?_ ?_ ?_
 ·exact Nat.zero_le _
 ·exact zF
 ·rintro k hI
  exact zL
 ·exact fun _ _ _ _ h => .inl h
 rintro k hI
 dsimp only at hI ⊢
 refine yS fun _ K5 => ?_
 refine yR ?_
 refine aa rfl (dp rfl rfl rfl) ?_
 refine yN ?_
 dsimp only [St.put]
 refine K5 _ ?_
 refine yS fun _ K6 => ?_
 refine bc rfl (fun hc => ?_) (fun hc => ?_)
 ·replace hc := of_decide_eq_true hc
  obtain ⟨zn, hz, hz6⟩ := v7 h hx (k := k) (by omega)
  have hRz := lh R hz6
  refine bi ?_
  refine K6 _ ?_
  refine yS fun _ K7 => ?_
  refine cd ?_
  refine yS fun _ K8 => ?_
  refine yR ?_
  refine aa rfl (c5 rfl rfl rfl rfl (c7 (by assumption)) (Enc.len _)) ?_
  refine yL rfl rfl rfl ?_
  refine yA rfl rfl ?_
  refine yN ?_
  dsimp only [St.put]
  refine K8 _ ?_
  refine yR ?_
  refine yM rfl rfl ?_
  refine yF rfl rfl rfl rfl ?_
  refine yL rfl rfl rfl ?_
  refine yM rfl rfl ?_
  refine aa rfl (c5 rfl rfl rfl rfl (c7 (by assumption)) (Enc.len _)) ?_
  refine yL rfl rfl rfl ?_
  refine aa rfl (uar rfl rfl rfl rfl) ?_
  refine yA rfl rfl ?_
  refine yN ?_
  dsimp only [St.put]
  refine K7 _ ?_
  refine yR ?_
  refine aa rfl (ct rfl rfl rfl (by omega)) ?_
  refine yM rfl rfl ?_
  refine yN ?_
  dsimp only [St.put]
  have e := uh4 (R := R) (c := C j) hz
  rw [Int.toNat_natCast] at e
  rw [← e]
  exact ⟨k + 1, by omega, by omega, ⟨⟨rfl, rfl⟩, zF, zB, zN, zX⟩⟩
 replace hc := of_decide_eq_false hc
 refine el ?_
 refine K3 _ ?_
 refine yS fun _ K9 => ?_
 refine yR ?_
 refine yM rfl rfl ?_
 refine yA rfl rfl ?_
 refine yN ?_
 dsimp only [St.put]
 refine K9 _ ?_
 refine ay ?_
 refine cg rfl (by constructor) zN zS ?_
 exact vi (by rw [iy (show (dd p x).length ≤ k by omega), uk0 hx])
end Go.Proofs.YtgffhbbcpgdjjaaDoor
namespace Go.AB
open Go Go.RowKit
/-- what an operation waits for -/
def oz (o : Oper) : List Nat := (o.after.toList.filter fun e => Region.binds .any e).map (·.on)
def na (l : List Bool) : Nat := (l.filter fun b => !b).length
theorem wo : ∀ {l : List Bool} {i : Nat}, l[i]? = some false → na (l.set i true) + 1 = na l
 | [], i, h => by simp at h
 | b :: l, 0, h => by
  simp only [List.getElem?_cons_zero, Option.some.injEq] at h
  subst h
  simp [na]
 | b :: l, i + 1, h => by
  simp only [List.getElem?_cons_succ] at h
  have ih := wo h
  unfold na at ih ⊢
  cases b
  ·simp only [List.set_cons_succ, List.filter_cons, Bool.not_false, if_true, List.length_cons]; omega
  ·simp only [List.set_cons_succ, List.filter_cons, Bool.not_true, Bool.false_eq_true, if_false]; omega
theorem uhn {l : List Bool} (h : na l = 0) (i : Nat) : l[i]? ≠ some false := fun e => by
 have := wo e
 omega
theorem ugj {ol : List Oper} {l : List Bool} {i : Nat} (h : i ∈ Region.ready .any ol.toArray l.toArray) (hl : l.length = ol.length) : ∃ o, ol[i]? = some o ∧ l[i]? = some false ∧ ∀ j ∈ oz o, l[j]? = some true := by
 unfold Region.ready at h
 simp only [List.mem_filter, List.mem_range, List.size_toArray, Bool.and_eq_true, Bool.not_eq_true'] at h
 obtain ⟨h1, h2, h3⟩ := h
 obtain ⟨o, ho⟩ : ∃ o, ol[i]? = some o := ⟨_, List.getElem?_eq_getElem h1⟩
 refine ⟨o, ho, ?_, fun j hj => ?_⟩
 ·have e := List.getElem?_eq_getElem (l := l) (i := i) (by omega)
  rw [Array.getD_eq_getD_getElem?, List.getElem?_toArray, e] at h2
  rw [e, ← h2]; rfl
 ·rw [List.getElem?_toArray, ho] at h3
  simp only [Option.map_some, Option.getD_some] at h3
  rw [← Array.all_toList, List.all_eq_true] at h3
  unfold oz at hj
  obtain ⟨e, he, rfl⟩ := List.mem_map.1 hj
  obtain ⟨he1, he2⟩ := List.mem_filter.1 he
  have := h3 e he1
  rw [he2, Bool.not_true, Bool.false_or, Array.getD_eq_getD_getElem?, List.getElem?_toArray] at this
  cases hb : l[e.on]? with
  | none => rw [hb] at this; cases this
  | some b => rw [hb] at this; rw [show b = true from this]
section
variable {P : Program} {ol : List Oper} {K : St → Prop} {late : Nat → Bool}
/-- whether each operation waits only for earlier ones -/
def fwdB (ol : List Oper) : Bool := (List.range ol.length).all fun i => ((ol[i]?).map fun o => (oz o).all fun j => decide (j < i)).getD true
theorem ugi {l : List Bool} (hf : fwdB ol = true) (hl : l.length = ol.length) (h : Region.ready .any ol.toArray l.toArray = []) : ∀ i, i < ol.length → l[i]? = some true := by
 intro i
 induction i using Nat.strongRecOn with
 | _ i ih =>
  intro hi
  obtain ⟨o, ho⟩ : ∃ o, ol[i]? = some o := ⟨_, List.getElem?_eq_getElem hi⟩
  have e := List.getElem?_eq_getElem (l := l) (i := i) (by omega)
  cases hb : l[i]'(by omega) with
  | true => rw [e, hb]
  | false =>
   exfalso
   have hm : i ∈ Region.ready .any ol.toArray l.toArray := by
    unfold Region.ready
    simp only [List.mem_filter, List.mem_range, List.size_toArray, Bool.and_eq_true, Bool.not_eq_true']
    refine ⟨hi, by rw [Array.getD_eq_getD_getElem?, List.getElem?_toArray, e, hb]; rfl, ?_⟩
    rw [List.getElem?_toArray, ho]
    simp only [Option.map_some, Option.getD_some]
    rw [← Array.all_toList, List.all_eq_true]
    intro e1 he1
    cases hq : Region.binds .any e1 with
    | false => rfl
    | true =>
     rw [Bool.not_true, Bool.false_or, Array.getD_eq_getD_getElem?, List.getElem?_toArray]
     have hj : e1.on ∈ oz o := List.mem_map.2 ⟨e1, List.mem_filter.2 ⟨he1, hq⟩, rfl⟩
     have h1 := List.all_eq_true.1 hf i (List.mem_range.2 hi)
     rw [ho] at h1
     simp only [Option.map_some, Option.getD_some, List.all_eq_true] at h1
     have hlt := of_decide_eq_true (h1 _ hj)
     rw [ih _ hlt (by omega)]; rfl
   rw [h] at hm
   cases hm
end
end Go.AB
namespace Go.AB
open Go Go.RowKit
variable {ρ : Option Nat}
section
variable {P : Program} {ops : Array Oper} {Q : Exit → Act → World → Prop} {S : World → Prop} {late : Nat → Bool}
/-- Values alone: whatever has come up. -/
theorem ud6 {S2 : World → Prop} (fin : Act → World → Prop) (fuel : Nat) (hs : Region.noSelect ops = true) (hQ : ∀ (o : Option Tmp) (v : Value) c a w, Q (.panic c) (a.put o v) w → Q (.panic c) a w) :
  ∀ (π : List (Nat × Option Nat)) (listed : Array Bool) (a : Act) (w : World), Closed .any ops listed → k6 ops late (fun _ => true) π listed = true →
   (∀ a, fin a w → gr P .any ops Q S late fuel (j7 π listed) a w) → f4 P ops (ij fin) S2 late (fun _ => false) (fun _ => true) π a w → gr P .any ops Q S late (fy π + fuel) listed a w := by
 intro π
 induction π with
 | nil =>
  intro listed a w _ _ hf h
  have := hf a h
  simpa [fy, j7] using this
 | cons p rest ih =>
  obtain ⟨i, m⟩ := p
  intro listed a w hcl hc hf h
  cases m with
  | some j => simp [k6] at hc
  | none =>
   simp only [k6, Bool.and_eq_true] at hc
   obtain ⟨⟨⟨⟨hready, hfree⟩, hsome⟩, hlate⟩, hc2⟩ := hc
   simp only [f4, Bool.false_eq_true, if_false] at h
   cases ho : ops[i]? with
   | none => rw [ho] at hsome; cases hsome
   | some o =>
    rw [ho] at h
    obtain ⟨v, hy, hrest⟩ := h
    have hi : i ∈ Region.ready .any ops listed := by simpa using hready
    have hrec := ih _ _ _ (hcl.set hi) hc2 hf hrest
    have hp : fy ((i, none) :: rest) + fuel = fy rest + fuel + 1 := by simp only [fy]; omega
    rw [hp]
    simp only [if_true] at hy
    exact qs (depth := ops.size) (fun _ => True) ho (Region.noSelect_spec hs) (fun c a w => hQ o.dst v c a w) (.inl fun _ => trivial) (fy rest + fuel) listed a w hcl (Region.free_spec ho hfree) hi hy trivial hrec
end
section
variable (P : Program) (ol : List Oper) (K : St → Prop) (D : List Nat) (late : Nat → Bool)
/-- What is left, in whatever order; b: something late has come up. -/
def jx (b : Bool) (fuel : Nat) (listed : List Bool) (st : St) : Prop :=
 ∀ (E0 : Env) (w0 : World) (Q : Act → World → Prop), (∀ a' w' st' E', Ev E0 w0 E' w' → Sim E' w' st' a' → K st' → Q a' w') →
  ∀ E1 w1 a, Ev E0 w0 E1 w1 → Sim E1 w1 st a → (b = false → ∀ n ∈ D, E1.T n = E0.T n) → gr P .any ol.toArray (ij Q) (Keeps E0 (· ∈ D) w0) late fuel listed.toArray a w1
def u7 (b : Bool) (fuel : Nat) (listed : List Bool) (i : Nat) (st : St) : Prop :=
 ∃ o, ol[i]? = some o ∧ eo ol.toArray st o = some true ∧ ((b = false ∧ EStep P o st fun st' => l4 D st st' ∧ jx P ol K D late false fuel (listed.set i true) st') ∨ (late i = true ∧ EStep P o st (jx P ol K D late true fuel (listed.set i true))))
def qq (b : Bool) (fuel : Nat) (listed : List Bool) (st : St) : List Nat → Prop
 | [] => True
 | i :: is => u7 P ol K D late b fuel listed i st ∧ qq b fuel listed st is
end
section
variable {P : Program} {ol : List Oper} {K : St → Prop} {D : List Nat} {late : Nat → Bool} {b : Bool} {fuel : Nat} {listed : List Bool} {st : St} {i : Nat} {is : List Nat} {o : Oper} {c : C}
theorem ql : qq P ol K D late b fuel listed st [] := trivial
theorem qm (h : u7 P ol K D late b fuel listed i st) (k : qq P ol K D late b fuel listed st is) : qq P ol K D late b fuel listed st (i :: is) := ⟨h, k⟩
theorem qj (hL : late i = true) (hol : ol[i]? = some o) (hg : eo ol.toArray st o = some true) {listed' : List Bool} (hl : listed.set i true = listed') (h : EStep P o st (jx P ol K D late true fuel listed')) : u7 P ol K D late b fuel listed i st :=
 ⟨o, hol, hg, .inr ⟨hL, by rw [hl]; exact h⟩⟩
theorem udu (hr : (Region.ready .any ol.toArray listed.toArray == []) = true) (h : K st) : jx P ol K D late b fuel listed st := by
 intro E0 w0 Q hQ E1 w1 a hev hs _
 have hr' : Region.ready .any ol.toArray listed.toArray = [] := by simpa using hr
 have hq := hQ a w1 st E1 hev hs h
 cases fuel with
 | zero => exact ⟨hr', hq⟩
 | succ n => exact ⟨fun _ => hq, fun i hi => by rw [hr'] at hi; cases hi⟩
theorem o9 (is : List Nat) (hr : (Region.ready .any ol.toArray listed.toArray == is) = true) (hne : is ≠ []) (h : qq P ol K D late b fuel listed st is) : jx P ol K D late b (fuel + 1) listed st := by
 intro E0 w0 Q hQ E1 w1 a hev hs hb
 have hr' : Region.ready .any ol.toArray listed.toArray = is := by simpa using hr
 refine ⟨fun e => absurd (hr'.symm.trans e) hne, fun i hi => ?_⟩
 rw [hr'] at hi
 have hi' : u7 P ol K D late b fuel listed i st := by
  clear hr hr' hne
  induction is with
  | nil => cases hi
  | cons j is ih =>
   rcases List.mem_cons.1 hi with rfl | hi
   ·exact h.1
   ·exact ih h.2 hi
 obtain ⟨o, hol, hg, hcase⟩ := hi'
 have ho : ol.toArray[i]? = some o := by simpa using hol
 have hset : listed.toArray.setIfInBounds i true = (listed.set i true).toArray := by simp
 refine wpOp_step ho fun Kr hK => ?_
 rw [if_pos (j5 hg hs)]
 rcases hcase with ⟨rfl, h1⟩ | ⟨hL, h1⟩
 ·refine h1 E1 w1 a hs Kr _ fun a' w' st' E' q1 q2 q3 => ?_
  have hk := ub hs q1 q2 q3.1
  refine hK a' w' ⟨.inr fun hS => ⟨fun b j hj => (q1.cell b j (Nat.lt_of_lt_of_le hj (hev.L b))).trans (hS.1 b j hj), fun n hn ver wv val b ht hb' => ?_⟩, ?_⟩
  ·have := hb rfl n hn
   exact ((hk n hn).2 ver wv val b (this.trans ht) hb').trans (hS.2 n hn ver wv val b ht hb')
  ·rw [hset]
   exact q3.2 E0 w0 Q hQ E' w' a' (hev.trans q1) q2 fun e n hn => (hk n hn).1.trans (hb rfl n hn)
 ·refine h1 E1 w1 a hs Kr _ fun a' w' st' E' q1 q2 q3 => ?_
  refine hK a' w' ⟨.inl hL, ?_⟩
  rw [hset]
  exact q3 E0 w0 Q hQ E' w' a' (hev.trans q1) q2 fun e => by cases e
theorem qo {total : Nat} (π : List (Nat × Option Nat)) (fuel : Nat) (listed' : List Bool)
  (hchk : (xv ol.toArray listed.toArray && (Region.noSelect ol.toArray && (k6 ol.toArray late (fun _ => true) π listed.toArray && ((j7 π listed.toArray).toList == listed' && total == fy π + fuel)))) = true)
  (h : iu P ol.toArray (fun st' => l4 D st st' ∧ jx P ol K D late b fuel listed' st') [] late (fun _ => false) (fun _ => true) π st) : jx P ol K D late b total listed st := by
 simp only [Bool.and_eq_true, beq_iff_eq] at hchk
 obtain ⟨h0, h1, h2, h3, h4⟩ := hchk
 subst h4
 intro E0 w0 Q hQ E1 w1 a hev hs hb
 have hend : j7 π listed.toArray = listed'.toArray := by rw [← h3]
 refine ud6 (S2 := Keeps E1 (· ∈ ([] : List Nat)) w1) (fun a' w' => gr P .any ol.toArray (ij Q) (Keeps E0 (· ∈ D) w0) late fuel listed'.toArray a' w') fuel h1 (fun _ _ _ _ _ h => h) π _ a w1 (ucu h0) h2 (fun a' h' => by rw [hend]; exact h') ?_
 exact h E1 w1 _ (fun a' w' st' E' q1 q2 q3 => q3.2 E0 w0 Q hQ E' w' a' (hev.trans q1) q2 fun e n hn => ((ub hs q1 q2 q3.1) n hn).1.trans (hb e n hn)) a hs
theorem udg {id : Nat} {l : List Oper} {Q : Exit → St → Prop} (π : List (Nat × Option Nat)) (late N : Nat → Bool) (fuel : Nat) (listed : List Bool) (D : List Nat) (hm : P.follows .mixedOrders = true)
  (hchk : (po l && (Region.noSelect l.toArray && (k6 l.toArray late N π (Array.replicate l.toArray.size false) && ((j7 π (Array.replicate l.toArray.size false)).toList == listed && fy π + fuel == l.toArray.size)))) = true)
  (h : iu P l.toArray (fun st' => l4 D st st' ∧ jx P l (Q .normal) D late false fuel listed st') D late (fun _ => false) N π st) : AW ρ P (.region id l.toArray true) Q st := by
 intro E w a hs
 simp only [Bool.and_eq_true, beq_iff_eq] at hchk
 obtain ⟨h0, h1, h2, h3, h4⟩ := hchk
 have hev : Ev E w E w.drew := Ev.same ((Below.refl _ _).drew) rfl
 have hend : j7 π (Array.replicate l.toArray.size false) = listed.toArray := by rw [← h3]
 have key : gr P .any l.toArray (ij fun a' w' => lx E w Q .normal a' w') (Keeps E (· ∈ D) w.drew) late (fy π + fuel) (Array.replicate l.toArray.size false) a w.drew := by
  refine u9 (fun a' w' => gr P .any l.toArray (ij fun a' w' => lx E w Q .normal a' w') (Keeps E (· ∈ D) w.drew) late fuel listed.toArray a' w') fuel h1 (fun _ _ _ _ _ h => h) π _ a w.drew ?_ h2 (Keeps.refl _ _ _) (fun a' h' => by rw [hend]; exact h') ?_
  ·intro j o _ hj
   rw [Array.getD_eq_getD_getElem?, Array.getElem?_replicate] at hj
   split at hj <;> simp at hj
  ·exact h E w.drew _ (fun a' w' st' E' q1 q2 q3 => q3.2 E w.drew _ (fun a2 w2 st2 E2 r1 r2 r3 => ⟨st2, E2, hev.trans r1, r2, r3⟩) E' w' a' q1 q2 fun _ n hn => ((ub hs.drew q1 q2 q3.1) n hn).1) a hs.drew
 rw [h4] at key
 refine g4 (Q := ij fun a' w' => lx E w Q .normal a' w') ?_ (xu hm h0 (sv _ _ _ _ key))
 intro e a' w' hq
 cases e with
 | normal => exact hq
 | _ => exact hq.elim
end
/-- Four objects that are changed. -/
theorem yo {g H : Nat → Option GObj} {a b c d : Nat} {oa ob oc od : GObj} (ha : H a = some oa) (hb : H b = some ob) (hc : H c = some oc) (hd : H d = some od) (h : ∀ n o, n ≠ a → n ≠ b → n ≠ c → n ≠ d → g n = some o → H n = some o) :
  ∀ n o, aj (aj (aj (aj g a oa) b ob) c oc) d od n = some o → H n = some o := by
 intro n o hn
 by_cases e1 : n = d
 ·subst e1; rw [ma] at hn; rw [hd]; exact hn
 ·rw [gt e1] at hn
  by_cases e2 : n = c
  ·subst e2; rw [ma] at hn; rw [hc]; exact hn
  ·rw [gt e2] at hn
   by_cases e3 : n = b
   ·subst e3; rw [ma] at hn; rw [hb]; exact hn
   ·rw [gt e3] at hn
    by_cases e4 : n = a
    ·subst e4; rw [ma] at hn; rw [ha]; exact hn
    ·rw [gt e4] at hn
     exact h n o e4 e3 e2 e1 hn
end Go.AB
namespace Go.AB
open Go Go.RowKit
section
variable {P : Program} {ol : List Oper} {K : St → Prop} {D : List Nat} {late : Nat → Bool}
theorem uln (I : List Bool → St → Prop) (stop : List Bool → Bool) (hf : fwdB ol = true) (hl : ∀ l st, I l st → l.length = ol.length) (hall : ∀ l st, I l st → (∀ i, i < ol.length → l[i]? = some true) → stop l = true)
  (hs : ∀ l st i o, I l st → stop l = false → ol[i]? = some o → l[i]? = some false → (∀ j ∈ oz o, l[j]? = some true) → eo ol.toArray st o = some true ∧ EStep P o st fun st' => l4 D st st' ∧ I (l.set i true) st')
  (he : ∀ l st, I l st → stop l = true → jx P ol K D late false (na l) l st) : ∀ (fuel : Nat) (l : List Bool) (st : St), I l st → na l = fuel → jx P ol K D late false fuel l st := by
 intro fuel
 induction fuel with
 | zero =>
  intro l st hI h0
  have hz : ∀ i, i < ol.length → l[i]? = some true := fun i hi => by
   have e := List.getElem?_eq_getElem (l := l) (i := i) (by rw [hl l st hI]; exact hi)
   cases hb : l[i]'(by rw [hl l st hI]; exact hi) with
   | true => rw [e, hb]
   | false => exact absurd (by rw [e, hb]) (uhn h0 i)
  have := he l st hI (hall l st hI hz)
  rwa [h0] at this
 | succ fuel ih =>
  intro l st hI h0
  cases hst : stop l with
  | true =>
   have := he l st hI hst
   rwa [h0] at this
  | false =>
   cases h : Region.ready .any ol.toArray l.toArray with
   | nil => rw [hall l st hI (ugi hf (hl l st hI) h)] at hst; cases hst
   | cons i is =>
    refine o9 (i :: is) (by rw [h]; exact beq_self_eq_true _) (by simp) ?_
    have key : ∀ js : List Nat, (∀ j ∈ js, j ∈ Region.ready .any ol.toArray l.toArray) → qq P ol K D late false fuel l st js := by
     intro js
     induction js with
     | nil => intro _; trivial
     | cons j js ihj =>
      intro hjs
      refine ⟨?_, ihj fun k hk => hjs k (List.mem_cons_of_mem _ hk)⟩
      obtain ⟨o, ho, h2, h3⟩ := ugj (hjs j (List.mem_cons_self ..)) (hl l st hI)
      have hn : na (l.set j true) = fuel := by have := wo h2; omega
      obtain ⟨hg, hE⟩ := hs l st j o hI hst ho h2 h3
      exact ⟨o, ho, hg, .inl ⟨rfl, hE.mono fun st' h' => ⟨h'.1, ih _ _ h'.2 hn⟩⟩⟩
    exact key (i :: is) fun j hj => by rw [h]; exact hj
/-- A state whose slots stand in another order. -/
theorem ulm {b : Bool} {fuel : Nat} {listed : List Bool} {st st' : St} (hn : st.n = st'.n) (hd : st.df = st'.df) (hA : ∀ i, ca st.l st.r i = ca st'.l st'.r i) (hG : st.G = st'.G) (hx : st.nx = st'.nx) (h : jx P ol K D late b fuel listed st') : jx P ol K D late b fuel listed st := by
 intro E0 w0 Q hQ E1 w1 a hev hs hb
 refine h E0 w0 Q hQ E1 w1 a hev ⟨hd ▸ hs.d, hn ▸ hs.sz, fun i v hv => ?_, ?_⟩ hb
 ·have := hs.t i v hv
  rwa [hA] at this
 ·have := hs.g
  rwa [hG, hx] at this
end
theorem pi {st st' : St} {n : Nat} {o : GObj} (h1 : st.G n = some o) (h2 : st'.G n = some o) : l4 [n] st st' := y4 h1 h2 rfl yz
/-- whether an operation waits for another one -/
def nt (ol : List Oper) (i j : Nat) : Bool := ((ol[i]?).map fun o => (oz o).contains j).getD false
theorem qe {ol : List Oper} {i j : Nat} {o : Oper} (h : nt ol i j = true) (ho : ol[i]? = some o) : j ∈ oz o := by
 unfold nt at h
 rw [ho] at h
 simpa using h
/-- the slots, when so much came up: builds and appends of three lists -/
def adS (A0 : Nat → C) (c8 c9 c15 c16 c22 c23 : C) (b8 b9 b15 b16 b22 b23 : Bool) (i : Nat) : C :=
 bif b8 && Nat.beq 109 i then c8 else bif b9 && Nat.beq 110 i then c9 else bif b15 && Nat.beq 116 i then c15 else bif b16 && Nat.beq 117 i then c16 else bif b22 && Nat.beq 123 i then c22 else bif b23 && Nat.beq 124 i then c23 else A0 i
def adG (G0 G1 G2 G3 : Nat → Option GObj) (b9 b16 b23 : Bool) : Nat → Option GObj := bif b23 then G3 else bif b16 then G2 else bif b9 then G1 else G0
structure AdI (A0 : Nat → C) (c8 c9 c15 c16 c22 c23 : C) (G0 G1 G2 G3 : Nat → Option GObj) (nn df nx : Nat) (b8 b9 b15 b16 b22 b23 : Bool) (st : St) : Prop where
 n : st.n = nn
 df : st.df = df
 nx : st.nx = nx
 A : ∀ i, ca st.l st.r i = adS A0 c8 c9 c15 c16 c22 c23 b8 b9 b15 b16 b22 b23 i
 G : st.G = adG G0 G1 G2 G3 b9 b16 b23
 e9 : b9 = true → b8 = true
 e16 : b16 = true → b15 = true ∧ b9 = true
 e23 : b23 = true → b22 = true ∧ b16 = true
theorem jl {a b i : Nat} (h : Nat.beq a i = true) (hab : Nat.beq a b = false) : Nat.beq b i = false := by
 have := Nat.eq_of_beq_eq_true h
 subst this
 cases e : Nat.beq b a
 ·rfl
 ·have := Nat.eq_of_beq_eq_true e
  subst this
  rw [Nat.beq_refl] at hab; cases hab
end Go.AB
namespace Go.AB
open Go Go.RowKit
section
variable {A0 : Nat → C} {c8 c9 c15 c16 c22 c23 : C} {G0 G1 G2 G3 : Nat → Option GObj} {nn df nx : Nat} {b8 b9 b15 b16 b22 b23 : Bool} {st : St}
theorem AdI.cong {x : List (Nat × C)} {g g' : Nat → Option GObj} (e : g = g') (h : AdI A0 c8 c9 c15 c16 c22 c23 G0 G1 G2 G3 nn df nx b8 b9 b15 b16 b22 b23 { st with r := x, G := g' }) : AdI A0 c8 c9 c15 c16 c22 c23 G0 G1 G2 G3 nn df nx b8 b9 b15 b16 b22 b23 { st with r := x, G := g } := by
 subst e; exact h
theorem AdI.step8 (h : AdI A0 c8 c9 c15 c16 c22 c23 G0 G1 G2 G3 nn df nx false b9 b15 b16 b22 b23 st) (k9 : b9 = false) (k16 : b16 = false) (k23 : b23 = false) : AdI A0 c8 c9 c15 c16 c22 c23 G0 G1 G2 G3 nn df nx true b9 b15 b16 b22 b23 { st with r := (109, c8) :: st.r } := by
 subst k9
 subst k16
 subst k23
 exact {
  n := h.n
  df := h.df
  nx := h.nx
  A := fun i => by
   show (bif Nat.beq 109 i then _ else ca st.l st.r i) = _
   rw [h.A i]
   cases e : Nat.beq 109 i
   ·simp only [adS, e, Bool.and_false, Bool.false_and, cond_false]
   ·rw [← Nat.eq_of_beq_eq_true e]
    cases b15 <;> cases b22 <;> rfl
  G := h.G
  e9 := fun _ => rfl
  e16 := fun e => nomatch e
  e23 := fun e => nomatch e }
theorem AdI.step9 (h : AdI A0 c8 c9 c15 c16 c22 c23 G0 G1 G2 G3 nn df nx true false b15 b16 b22 b23 st) (k16 : b16 = false) (k23 : b23 = false) : AdI A0 c8 c9 c15 c16 c22 c23 G0 G1 G2 G3 nn df nx true true b15 b16 b22 b23 { st with r := (110, c9) :: st.r, G := G1 } := by
 subst k16
 subst k23
 exact {
  n := h.n
  df := h.df
  nx := h.nx
  A := fun i => by
   show (bif Nat.beq 110 i then _ else ca st.l st.r i) = _
   rw [h.A i]
   cases e : Nat.beq 110 i
   ·simp only [adS, e, Bool.and_false, Bool.false_and, cond_false]
   ·rw [← Nat.eq_of_beq_eq_true e]
    cases b15 <;> cases b22 <;> rfl
  G := rfl
  e9 := fun _ => rfl
  e16 := fun e => nomatch e
  e23 := fun e => nomatch e }
theorem AdI.step15 (h : AdI A0 c8 c9 c15 c16 c22 c23 G0 G1 G2 G3 nn df nx b8 b9 false b16 b22 b23 st) (k16 : b16 = false) (k23 : b23 = false) : AdI A0 c8 c9 c15 c16 c22 c23 G0 G1 G2 G3 nn df nx b8 b9 true b16 b22 b23 { st with r := (116, c15) :: st.r } := by
 subst k16
 subst k23
 exact {
  n := h.n
  df := h.df
  nx := h.nx
  A := fun i => by
   show (bif Nat.beq 116 i then _ else ca st.l st.r i) = _
   rw [h.A i]
   cases e : Nat.beq 116 i
   ·simp only [adS, e, Bool.and_false, Bool.false_and, cond_false]
   ·rw [← Nat.eq_of_beq_eq_true e]
    cases b8 <;> cases b9 <;> cases b22 <;> rfl
  G := h.G
  e9 := h.e9
  e16 := fun e => nomatch e
  e23 := fun e => nomatch e }
theorem AdI.step16 (h : AdI A0 c8 c9 c15 c16 c22 c23 G0 G1 G2 G3 nn df nx true true true false b22 b23 st) (k23 : b23 = false) : AdI A0 c8 c9 c15 c16 c22 c23 G0 G1 G2 G3 nn df nx true true true true b22 b23 { st with r := (117, c16) :: st.r, G := G2 } := by
 subst k23
 exact {
  n := h.n
  df := h.df
  nx := h.nx
  A := fun i => by
   show (bif Nat.beq 117 i then _ else ca st.l st.r i) = _
   rw [h.A i]
   cases e : Nat.beq 117 i
   ·simp only [adS, e, Bool.and_false, Bool.false_and, cond_false]
   ·rw [← Nat.eq_of_beq_eq_true e]
    cases b22 <;> rfl
  G := rfl
  e9 := fun _ => rfl
  e16 := fun _ => ⟨rfl, rfl⟩
  e23 := fun e => nomatch e }
theorem AdI.step22 (h : AdI A0 c8 c9 c15 c16 c22 c23 G0 G1 G2 G3 nn df nx b8 b9 b15 b16 false b23 st) (k23 : b23 = false) : AdI A0 c8 c9 c15 c16 c22 c23 G0 G1 G2 G3 nn df nx b8 b9 b15 b16 true b23 { st with r := (123, c22) :: st.r } := by
 subst k23
 exact {
  n := h.n
  df := h.df
  nx := h.nx
  A := fun i => by
   show (bif Nat.beq 123 i then _ else ca st.l st.r i) = _
   rw [h.A i]
   cases e : Nat.beq 123 i
   ·simp only [adS, e, Bool.and_false, Bool.false_and, cond_false]
   ·rw [← Nat.eq_of_beq_eq_true e]
    cases b8 <;> cases b9 <;> cases b15 <;> cases b16 <;> rfl
  G := h.G
  e9 := h.e9
  e16 := h.e16
  e23 := fun e => nomatch e }
theorem AdI.step23 (h : AdI A0 c8 c9 c15 c16 c22 c23 G0 G1 G2 G3 nn df nx true true true true true false st)  : AdI A0 c8 c9 c15 c16 c22 c23 G0 G1 G2 G3 nn df nx true true true true true true { st with r := (124, c23) :: st.r, G := G3 } := by
 exact {
  n := h.n
  df := h.df
  nx := h.nx
  A := fun i => by
   show (bif Nat.beq 124 i then _ else ca st.l st.r i) = _
   rw [h.A i]
   cases e : Nat.beq 124 i
   ·simp only [adS, e, Bool.and_false, Bool.false_and, cond_false]
   ·rw [← Nat.eq_of_beq_eq_true e]
    rfl
  G := rfl
  e9 := fun _ => rfl
  e16 := fun _ => ⟨rfl, rfl⟩
  e23 := fun _ => ⟨rfl, rfl⟩ }
end
/-- the flags, as the list of what came up -/
def adL (b8 b9 b15 b16 b22 b23 : Bool) : List Bool := [true, true, true, true, true, true, true, true, b8, b9, true, true, true, true, true, b15, b16, true, true, true, true, true, b22, b23, false, false, false, false, false, false, false, false, false]
theorem tp {a b : Bool} (h : a = true → b = true) (hb : b = false) : a = false := by
 cases a
 ·rfl
 ·rw [h rfl] at hb; cases hb
theorem p8 {ops : Array Oper} {st : St} {o : Oper} (h1 : r7 o.op = false) (h2 : o.guard = none) : eo ops st o = some true := by
 unfold eo ue
 rw [h1, h2]; rfl
theorem mw {st : St} {i n : Nat} {c : C} (hn : st.n = n) (hi : Nat.blt i n = true) (h : ca st.l st.r i = c) : st.at i = c := by
 unfold St.at
 rw [hn, hi]; exact h
end Go.AB
namespace Go.Proofs.YtgffhbbcpgdjjaaDoor
set_option maxRecDepth 10000
open Go Go.RowKit Go.AB
open Go.AB.Enc (cells)
open Go.PB (PlaceD)
set_option maxHeartbeats 1000000 in
theorem udt (ws : List Int) (al bo : List (List PlaceD)) (w : Int) (fo bt : List PlaceD) (nB a1 a2 a3 : Nat) {ob : GObj} {ol : List Oper} {K : St → Prop} {late : Nat → Bool} (st0 : St) (hlen : ol.length = 33) (hf : fwdB ol = true) (hgd : (ol.all fun o => o.guard.isNone) = true)
  (hdp : (nt ol 9 8 && nt ol 16 15 && nt ol 16 9 && nt ol 23 22 && nt ol 23 16 && (List.range 9).all fun i => nt ol (24 + i) 23) = true)
  (q8 : (ol[8]?).map (fun o => (o.op, o.dst)) = some (.buildSlice 57 1 #[(0, .tmp 108)], some 109)) (q9 : (ol[9]?).map (fun o => (o.op, o.dst)) = some (.call { callee := .builtin .append, args := #[.tmp 107, .tmp 109], argTypes := #[57, 57] }, some 110))
  (q15 : (ol[15]?).map (fun o => (o.op, o.dst)) = some (.buildSlice 52 1 #[(0, .tmp 115)], some 116)) (q16 : (ol[16]?).map (fun o => (o.op, o.dst)) = some (.call { callee := .builtin .append, args := #[.tmp 114, .tmp 116], argTypes := #[52, 52] }, some 117))
  (q22 : (ol[22]?).map (fun o => (o.op, o.dst)) = some (.buildSlice 52 1 #[(0, .tmp 122)], some 123)) (q23 : (ol[23]?).map (fun o => (o.op, o.dst)) = some (.call { callee := .builtin .append, args := #[.tmp 121, .tmp 123], argTypes := #[52, 52] }, some 124))
  (hn : st0.n = 131) (h107 : ca st0.l st0.r 107 = .list (ws.map cells) (.tip a1)) (h108 : ca st0.l st0.r 108 = .v (.int .i64 w)) (h114 : ca st0.l st0.r 114 = .list (al.map cells) (.tip a2)) (h115 : ca st0.l st0.r 115 = lst fo) (h121 : ca st0.l st0.r 121 = .list (bo.map cells) (.tip a3)) (h122 : ca st0.l st0.r 122 = lst bt)
  (hB : st0.G nB = some ob) (hG1 : st0.G a1 = some (.tip ws.length 3 1)) (hG2 : st0.G a2 = some (.tip al.length 36 1)) (hG3 : st0.G a3 = some (.tip bo.length 36 1))
  (d1 : nB ≠ a1) (d2 : nB ≠ a2) (d3 : nB ≠ a3) (d4 : a1 ≠ a2) (d5 : a1 ≠ a3) (d6 : a2 ≠ a3) (lw : ws.length ≤ 100) (la : al.length ≤ 100) (lb : bo.length ≤ 100)
  (hK : jx Tryd.prog ol K [nB] late false 9 (adL true true true true true true) { st0 with r := (124, .list ((bo ++ [bt]).map cells) (.tip a3)) :: (123, .list [[lst bt]] .none) :: (117, .list ((al ++ [fo]).map cells) (.tip a2)) :: (116, .list [[lst fo]] .none) :: (110, .list ((ws ++ [w]).map cells) (.tip a1)) :: (109, .list [[.v (.int .i64 w)]] .none) :: st0.r, G := aj (aj (aj st0.G a1 (.tip (ws ++ [w]).length 3 1)) a2 (.tip (al ++ [fo]).length 36 1)) a3 (.tip (bo ++ [bt]).length 36 1) }) :
  jx Tryd.prog ol K [nB] late false 15 (adL false false false false false false) st0 := by
 have hop : ∀ {i : Nat} {o : Oper} {q : Op} {d : Option Tmp}, ol[i]? = some o → (ol[i]?).map (fun o => (o.op, o.dst)) = some (q, d) → o.op = q ∧ o.dst = d := fun {i o q d} h k => by
  rw [h] at k
  simp only [Option.map_some, Option.some.injEq, Prod.mk.injEq] at k
  exact k
 simp only [Bool.and_eq_true, List.all_eq_true, List.mem_range] at hdp
 obtain ⟨⟨⟨⟨⟨p1, p2⟩, p3⟩, p4⟩, p5⟩, p6⟩ := hdp
 obtain ⟨G1, hG1'⟩ : ∃ G1, aj st0.G a1 (.tip (ws ++ [w]).length 3 1) = G1 := ⟨_, rfl⟩
 obtain ⟨G2, hG2'⟩ : ∃ G2, aj G1 a2 (.tip (al ++ [fo]).length 36 1) = G2 := ⟨_, rfl⟩
 obtain ⟨G3, hG3'⟩ : ∃ G3, aj G2 a3 (.tip (bo ++ [bt]).length 36 1) = G3 := ⟨_, rfl⟩
 rw [hG1', hG2', hG3'] at hK
 have k1 : G1 a2 = some (.tip al.length 36 1) := by rw [← hG1', gt d4.symm]; exact hG2
 have k2 : G2 a3 = some (.tip bo.length 36 1) := by rw [← hG2', gt d6.symm, ← hG1', gt d5.symm]; exact hG3
 have m1 : G1 nB = some ob := by rw [← hG1', gt d1]; exact hB
 have m2 : G2 nB = some ob := by rw [← hG2', gt d2]; exact m1
 have m3 : G3 nB = some ob := by rw [← hG3', gt d3]; exact m2
 have mB : ∀ b9 b16 b23, adG st0.G G1 G2 G3 b9 b16 b23 nB = some ob := fun b9 b16 b23 => by
  cases b23 <;> cases b16 <;> cases b9 <;> assumption
 refine uln (fun l st => ∃ b8 b9 b15 b16 b22 b23, l = adL b8 b9 b15 b16 b22 b23 ∧ AdI (ca st0.l st0.r) (.list [[.v (.int .i64 w)]] .none) (.list ((ws ++ [w]).map cells) (.tip a1)) (.list [[lst fo]] .none) (.list ((al ++ [fo]).map cells) (.tip a2)) (.list [[lst bt]] .none) (.list ((bo ++ [bt]).map cells) (.tip a3)) st0.G G1 G2 G3 131 st0.df st0.nx b8 b9 b15 b16 b22 b23 st) (fun l => (l[23]?).getD false) hf ?_ ?_ ?_ ?_ 15 _ st0 ?_ rfl
 ·rintro l st ⟨b8, b9, b15, b16, b22, b23, rfl, h⟩
  rw [hlen]; rfl
 ·rintro l st ⟨b8, b9, b15, b16, b22, b23, rfl, h⟩ hall
  rw [hlen] at hall
  have := hall 23 (by omega)
  show ((adL b8 b9 b15 b16 b22 b23)[23]?).getD false = true
  rw [this]; rfl
 ·rintro l st i o ⟨b8, b9, b15, b16, b22, b23, rfl, h⟩ hst hi hoff hdeps
  have hb23 : b23 = false := hst
  subst hb23
  have hlt := (List.getElem?_eq_some_iff.1 hi).1
  rw [hlen] at hlt
  have hgo : o.guard = none := by
   have := List.all_eq_true.1 hgd o (List.mem_of_getElem? hi)
   simpa using this
  have hsB := h.G ▸ mB b9 b16 false
  have hcase : (i = 8 ∨ i = 9 ∨ i = 15 ∨ i = 16 ∨ i = 22 ∨ i = 23) ∨ 24 ≤ i ∨ i = 0 ∨ i = 1 ∨ i = 2 ∨ i = 3 ∨ i = 4 ∨ i = 5 ∨ i = 6 ∨ i = 7 ∨ i = 10 ∨ i = 11 ∨ i = 12 ∨ i = 13 ∨ i = 14 ∨ i = 17 ∨ i = 18 ∨ i = 19 ∨ i = 20 ∨ i = 21 := by omega
  rcases hcase with (rfl | rfl | rfl | rfl | rfl | rfl) | h24 | rfl | rfl | rfl | rfl | rfl | rfl | rfl | rfl | rfl | rfl | rfl | rfl | rfl | rfl | rfl | rfl | rfl | rfl
  ·obtain ⟨e1, e2⟩ := hop hi q8
   obtain rfl : b8 = false := Option.some.inj hoff
   refine ⟨p8 (by rw [e1]; rfl) hgo, cy (rows := [[.v (.int .i64 w)]]) (parts := [(0, .tmp 108)]) e1 rfl ?_ (by decide) (by decide) (by simp) (by decide) ?_⟩
   ·show lj [(0, st.at 108)] = _
    rw [mw (c := .v (.int .i64 w)) h.n rfl (by rw [h.A]; cases b9 <;> cases b15 <;> cases b16 <;> cases b22 <;> exact h108)]; rfl
   ·rw [e2]
    exact ⟨pi hsB hsB, true, b9, b15, b16, b22, false, rfl, h.step8 (tp h.e9 rfl) (tp (fun e => h.e9 (h.e16 e).2) rfl) rfl⟩
  ·obtain ⟨e1, e2⟩ := hop hi q9
   obtain rfl : b9 = false := Option.some.inj hoff
   obtain rfl : b8 = true := Option.some.inj (hdeps 8 (qe p1 hi))
   have hk16 : b16 = false := tp (fun e => (h.e16 e).2) rfl
   subst hk16
   have hG := h.G
   refine ⟨p8 (by rw [e1]; rfl) hgo, j8 [w] e1 (mw h.n rfl (by rw [h.A]; cases b15 <;> cases b22 <;> exact h107)) (by rw [hG]; exact hG1) rfl (mw (c := .list [[.v (.int .i64 w)]] .none) h.n rfl (by rw [h.A]; rfl)) rfl (by simp only [List.length_cons, List.length_nil]; omega) ?_ (by simp only [List.length_cons, List.length_nil]; omega)⟩
   rw [e2]
   have e3 : aj st.G a1 (.tip (ws ++ [w]).length 3 1) = G1 := by rw [hG]; exact hG1'
   refine ⟨pi hsB (by show aj st.G a1 _ nB = _; rw [gt d1]; exact hsB), true, true, b15, false, b22, false, rfl, ?_⟩
   exact (h.step9 rfl rfl).cong e3
  ·obtain ⟨e1, e2⟩ := hop hi q15
   obtain rfl : b15 = false := Option.some.inj hoff
   refine ⟨p8 (by rw [e1]; rfl) hgo, cy (rows := [[lst fo]]) (parts := [(0, .tmp 115)]) e1 rfl ?_ (by decide) (by decide) (by simp) (by decide) ?_⟩
   ·show lj [(0, st.at 115)] = _
    rw [mw (c := lst fo) h.n rfl (by rw [h.A]; cases b8 <;> cases b9 <;> cases b16 <;> cases b22 <;> exact h115)]; rfl
   ·rw [e2]
    exact ⟨pi hsB hsB, b8, b9, true, b16, b22, false, rfl, h.step15 (tp (fun e => (h.e16 e).1) rfl) rfl⟩
  ·obtain ⟨e1, e2⟩ := hop hi q16
   obtain rfl : b16 = false := Option.some.inj hoff
   obtain rfl : b15 = true := Option.some.inj (hdeps 15 (qe p2 hi))
   obtain rfl : b9 = true := Option.some.inj (hdeps 9 (qe p3 hi))
   obtain rfl : b8 = true := h.e9 rfl
   have hG := h.G
   refine ⟨p8 (by rw [e1]; rfl) hgo, j8 [fo] e1 (mw h.n rfl (by rw [h.A]; cases b22 <;> exact h114)) (by rw [hG]; exact k1) rfl (mw (c := .list [[lst fo]] .none) h.n rfl (by rw [h.A]; rfl)) rfl (by simp only [List.length_cons, List.length_nil]; omega) ?_ (by simp only [List.length_cons, List.length_nil]; omega)⟩
   rw [e2]
   have e3 : aj st.G a2 (.tip (al ++ [fo]).length 36 1) = G2 := by rw [hG]; exact hG2'
   refine ⟨pi hsB (by show aj st.G a2 _ nB = _; rw [gt d2]; exact hsB), true, true, true, true, b22, false, rfl, ?_⟩
   exact (h.step16 rfl).cong e3
  ·obtain ⟨e1, e2⟩ := hop hi q22
   obtain rfl : b22 = false := Option.some.inj hoff
   refine ⟨p8 (by rw [e1]; rfl) hgo, cy (rows := [[lst bt]]) (parts := [(0, .tmp 122)]) e1 rfl ?_ (by decide) (by decide) (by simp) (by decide) ?_⟩
   ·show lj [(0, st.at 122)] = _
    rw [mw (c := lst bt) h.n rfl (by rw [h.A]; cases b8 <;> cases b9 <;> cases b15 <;> cases b16 <;> exact h122)]; rfl
   ·rw [e2]
    exact ⟨pi hsB hsB, b8, b9, b15, b16, true, false, rfl, h.step22 rfl⟩
  ·obtain ⟨e1, e2⟩ := hop hi q23
   obtain rfl : b22 = true := Option.some.inj (hdeps 22 (qe p4 hi))
   obtain rfl : b16 = true := Option.some.inj (hdeps 16 (qe p5 hi))
   obtain rfl : b15 = true := (h.e16 rfl).1
   obtain rfl : b9 = true := (h.e16 rfl).2
   obtain rfl : b8 = true := h.e9 rfl
   have hG := h.G
   refine ⟨p8 (by rw [e1]; rfl) hgo, j8 [bt] e1 (mw h.n rfl (by rw [h.A]; exact h121)) (by rw [hG]; exact k2) rfl (mw (c := .list [[lst bt]] .none) h.n rfl (by rw [h.A]; rfl)) rfl (by simp only [List.length_cons, List.length_nil]; omega) ?_ (by simp only [List.length_cons, List.length_nil]; omega)⟩
   rw [e2]
   have e3 : aj st.G a3 (.tip (bo ++ [bt]).length 36 1) = G3 := by rw [hG]; exact hG3'
   refine ⟨pi hsB (by show aj st.G a3 _ nB = _; rw [gt d3]; exact hsB), true, true, true, true, true, true, rfl, ?_⟩
   exact (h.step23).cong e3
  ·have hm := hdeps 23 (qe (i := i) (by have := p6 (i - 24) (by omega); rwa [show 24 + (i - 24) = i by omega] at this) hi)
   cases hm
  all_goals (cases hoff)
 ·rintro l st ⟨b8, b9, b15, b16, b22, b23, rfl, h⟩ hst
  obtain rfl : b23 = true := hst
  obtain ⟨rfl, rfl⟩ := h.e23 rfl
  obtain ⟨rfl, rfl⟩ := h.e16 rfl
  obtain rfl := h.e9 rfl
  refine ulm ?_ ?_ (fun i => ?_) ?_ ?_ hK
  ·exact h.n.trans hn.symm
  ·exact h.df
  rotate_left
  ·exact h.G
  ·exact h.nx
  rw [h.A i]
  unfold adS
  show (bif Nat.beq 109 i then _ else bif Nat.beq 110 i then _ else bif Nat.beq 116 i then _ else bif Nat.beq 117 i then _ else bif Nat.beq 123 i then _ else bif Nat.beq 124 i then _ else ca st0.l st0.r i) = (bif Nat.beq 124 i then _ else bif Nat.beq 123 i then _ else bif Nat.beq 117 i then _ else bif Nat.beq 116 i then _ else bif Nat.beq 110 i then _ else bif Nat.beq 109 i then _ else ca st0.l st0.r i)
  cases e1 : Nat.beq 109 i
  ·cases e2 : Nat.beq 110 i
   ·cases e3 : Nat.beq 116 i
    ·cases e4 : Nat.beq 117 i
     ·cases e5 : Nat.beq 123 i
      ·cases e6 : Nat.beq 124 i <;> rfl
      ·rw [jl e5 (b := 124) rfl]; rfl
     ·rw [jl e4 (b := 124) rfl, jl e4 (b := 123) rfl]; rfl
    ·rw [jl e3 (b := 124) rfl, jl e3 (b := 123) rfl, jl e3 (b := 117) rfl]; rfl
   ·rw [jl e2 (b := 124) rfl, jl e2 (b := 123) rfl, jl e2 (b := 117) rfl, jl e2 (b := 116) rfl]; rfl
  ·rw [jl e1 (b := 124) rfl, jl e1 (b := 123) rfl, jl e1 (b := 117) rfl, jl e1 (b := 116) rfl, jl e1 (b := 110) rfl]; rfl
 ·exact ⟨false, false, false, false, false, false, rfl, { n := hn, df := rfl, nx := rfl, A := fun _ => rfl, G := rfl, e9 := (fun e => nomatch e), e16 := (fun e => nomatch e), e23 := (fun e => nomatch e) }⟩
end Go.Proofs.YtgffhbbcpgdjjaaDoor
namespace Go.AB
open Go Go.RowKit
open Go.AB.Enc (cells)
section
variable {P : Program} {o : Oper} {st : St} {K : St → Prop}
/-- append to a slice without room: a copy, owned. -/
theorem ucq {α : Type} [Enc α] {t e : TypeId} {bytes : Nat} [AppT P t e (Enc.n α) bytes] {s x : Operand} {tok tk : Tok} {rows : List (List C)} (ys : List α) (ho : o.op = .call { callee := .builtin .append, args := #[s, x], argTypes := #[t, t] }) (hs : evC st s = .list [] tok) (htok : tok = .zero ∨ tok = .nil) (hx : evC st x = .list rows tk) (hy : rows = ys.map cells) (hne : ys ≠ []) (hn : 1 ≤ Enc.n α) (hb : ys.length * bytes ≤ 140737488355328) (hm : ys.length ≤ 9223372036854775807)
  (h : K (St.put { st with G := aj st.G st.nx (.arr 0 0 e (Enc.n α) ys.length (cp ys)), nx := st.nx + 1 } o.dst (.own st.nx 0 ys.length))) : EStep P o st K :=
 ji fun E w a hsim => by
  subst hy
  obtain ⟨ht, i, z, hie, hz, h1, h2, h3⟩ := AppT.spec (P := P) (t := t) (e := e) (sz := Enc.n α) (bytes := bytes)
  obtain ⟨sa, cap, _, _, e1, _, _, _, _, _, _, _, z1, z2, _⟩ := (hs ▸ hsim.ev s).list_inv
  have hcap : cap = 0 := by
   rcases htok with h | h
   ·exact z2 h
   ·exact (z1 h).2
  subst hcap
  have hrl : (ys.map (cells (α := α))).length = ys.length := List.length_map _
  obtain ⟨ao, c, news, e2, hl, hnews, hr, hone, h1c⟩ := uv (hx ▸ hsim.ev x) (mj ys)
  rw [hrl] at e2 hl hnews
  have hy0 : ys.length ≠ 0 := fun e => hne (List.eq_nil_of_length_eq_zero e)
  obtain ⟨ad, rfl, hcells⟩ := hnews.resolve_left hy0
  have hl2 : news.length = ys.length * i.size := by rw [hl, h1]
  have key : ∃ nc, (Builtin.append_ #[t, t] o.type #[.slice sa 0 0, .slice (some ad) ys.length c]).run P w = .ok (.slice (some ⟨w.heap.size, 0, none⟩) ys.length nc) (w.drew.alloc (.cells (news.toArray ++ Builtin.zeroCells z.cells (nc - ys.length)) e)) ∧ ys.length ≤ nc ∧ nc ≤ maxLen := by
   refine ⟨grownCap w (0 + ys.length) 0 e, ?_, ?_, ?_⟩
   ·cases sa with
    | none =>
     have := run_append_nil (P := P) w t o.type e i z ht hie hz ad ys.length c news hl2 hcells (by omega) (by omega) (by rw [h2]; omega)
     simpa using this
    | some a0 =>
     have := run_append_grow (P := P) w t o.type e i z ht hie hz a0 0 0 [] (by simp) (by simp) ad ys.length c news hl2 hcells (by omega) (by omega) (growslice_fits (by omega) (by rw [h2]; simpa using hb))
     simpa using this
   ·have := grownCap_ge w (0 + ys.length) 0 e; omega
   ·exact grownCap_le_maxLen w (0 + ys.length) 0 e (by unfold maxLen; omega)
  obtain ⟨nc, hrun, hnc, hnm⟩ := key
  obtain ⟨ob, hob⟩ : ∃ ob, ob = Obj.cells (news.toArray ++ Builtin.zeroCells z.cells (nc - ys.length)) e := ⟨_, rfl⟩
  rw [← hob] at hrun
  have hev := Ev.laid hsim.g (o := ob) 0 (.inr rfl)
  have hg := SimG.laid hsim.g (o := ob) 0 (.inr rfl)
  have hnew : (w.drew.alloc ob).heap[w.heap.size]? = some ob := p7 w.drew ob
  have hsz : (w.drew.alloc ob).heap.size = w.heap.size + 1 := by simp
  have hold : ∀ n tt b, (E.lay w.heap.size 0).T n = some tt → blk tt.2.2 = some b → b < w.heap.size := fun n tt b h5 h6 => (hsim.g.tb n _ _ _ b h5 h6).2
  have hnx := hsim.g.nx
  have hfr : ∀ b o', blk (.slice (some ⟨w.heap.size, 0, none⟩) ys.length nc) = some b → w.heap[b]? = some o' → False := fun b o' hbk ho' => by
   simp only [blk, Option.some.injEq] at hbk
   subst hbk
   have := (Array.getElem?_eq_some_iff.1 ho').1
   omega
  have hev2 := hev.thenName (.slice (some ⟨w.heap.size, 0, none⟩) ys.length nc) hfr
  have hg2 := SimG.name hg (.slice (some ⟨w.heap.size, 0, none⟩) ys.length nc) (.arr 0 0 e (Enc.n α) ys.length (cp ys)) (fun b hbk => by
   simp only [blk, Option.some.injEq] at hbk
   subst hbk
   exact ⟨hsim.g.base, by rw [hsz]; omega, fun n tt h5 h6 => absurd (hold n tt _ h5 h6) (by omega)⟩) (by
   refine ⟨.slice (some ⟨w.heap.size, 0, none⟩) ys.length nc, news, ?_, ⟨hl, .inr ⟨w.heap.size, nc, _, rfl, hsim.g.base, hnew.trans (by rw [hob]), hnc, hnm, ?_, ?_⟩⟩, fun c hc => ?_, hr.ev hev2, fun b hbk => ?_, hn⟩
   ·simp [Env.name, Env.lay, hnx]
   ·simp only [Array.size_append, List.size_toArray, size_zeroCells, hl]
    rw [h3, ← Nat.add_mul]
    congr 1
    omega
   ·simp only [Array.toList_append]
    rw [List.take_append_of_le_length (by simp [hl]), List.take_of_length_le (by simp [hl])]
   ·obtain ⟨r, hr1, hr2⟩ := List.mem_flatten.1 hc
    exact hone r hr1 c hr2
   ·simp only [blk, Option.some.injEq] at hbk
    subst hbk
    simp [Env.name, Env.lay])
  refine ⟨.slice (some ⟨w.heap.size, 0, none⟩) ys.length nc, w.drew.alloc ob, _, _, _, .own st.nx 0 ys.length, ?_, hev2, ?_, hg2, h⟩
  ·simp only [execOp, ho, resolve, invoke, builtin, Sem.run_bind, Sem.run_pure, Result.andThen_ok, List.map_toArray, List.map_cons, List.map_nil, e1, e2]
   simp only [List.length_nil]
   rw [hrun]; rfl
  ·refine R.own (by simp [Env.name, Env.lay]; omega) hnc hnm fun ver wv val htt => ?_
   simp only [Env.name, Env.lay, hnx, if_true, Option.some.injEq, Prod.mk.injEq] at htt
   obtain ⟨rfl, rfl, rfl⟩ := htt
   exact ⟨Nat.le_refl _, fun _ => ⟨_, Nat.le_refl _, rfl⟩⟩
end
/-- A function that gives nothing back ends. -/
theorem uca {P : Program} {st : St} {fn : Func} {G : Nat → Option GObj} {nx : Nat} {e : Exit} (hf : fn.results = #[]) (he : e = .normal ∨ e = .ret) (hn : nx ≤ st.nx) (hG : ∀ n o, G n = some o → st.G n = some o) : mz P fn (.tup []) G nx e st := by
 have : mc P fn st (.tup []) := fun E w a _ => ⟨_, results_none hf _ _ _, R.undef E w⟩
 rcases he with rfl | rfl
 ·exact ⟨this, hn, hG⟩
 ·exact ⟨this, hn, hG⟩
end Go.AB
namespace Go.AB
open Go Go.RowKit
open Go.Maps (Keyed)
section
variable {P : Program} {k t e : TypeId} {w : World} {r : Nat} {es : Array MapEntry} {clock : Nat}
end
section
variable {P : Program} {o : Oper} {st : St} {K : St → Prop} {α : Type} [KeyV α]
end
/-- Three numbers. -/
instance : KeyV Go.PB.PlaceD where
 kv x := .agg #[.int .i64 x.ch, .int .i64 x.ln, .int .i64 x.wd]
 kc x := .agg [.v (.int .i64 x.ch), .v (.int .i64 x.ln), .v (.int .i64 x.wd)]
 inv h := by
  obtain ⟨vs, rfl, h1, _⟩ := h.agg_inv
  match vs, h1 with
  | [a, b, c], h1 =>
   have e1 := (h1.2 0 _ _ rfl rfl).v_inv
   have e2 := (h1.2 1 _ _ rfl rfl).v_inv
   have e3 := (h1.2 2 _ _ rfl rfl).v_inv
   subst e1; subst e2; subst e3; rfl
  | [], h => exact absurd h.1 (by simp)
  | [_], h => exact absurd h.1 (by simp)
  | [_, _], h => exact absurd h.1 (by simp)
  | _ :: _ :: _ :: _ :: _, h => exact absurd h.1 (by simp)
 inj h := by
  rename_i x y
  obtain ⟨a, b, c⟩ := x
  obtain ⟨d, e, f⟩ := y
  simpa using h
 any {E w x v} h E' w' := by
  obtain ⟨vs, rfl, h1, _⟩ := h.agg_inv
  match vs, h1 with
  | [a, b, c], h1 =>
   have e1 := h1.2 0 _ _ rfl rfl
   have e2 := h1.2 1 _ _ rfl rfl
   have e3 := h1.2 2 _ _ rfl rfl
   cases e1 with | v e1 =>
   cases e2 with | v e2 =>
   cases e3 with | v e3 =>
   exact (Rs.cons (.v e1) (Rs.cons (.v e2) (Rs.cons (.v e3) Rs.nil))).agg (by intro c hc; simp only [List.mem_cons, List.not_mem_nil, or_false] at hc; rcases hc with rfl | rfl | rfl <;> rfl)
  | [], h => exact absurd h.1 (by simp)
  | [_], h => exact absurd h.1 (by simp)
  | [_, _], h => exact absurd h.1 (by simp)
  | _ :: _ :: _ :: _ :: _, h => exact absurd h.1 (by simp)
end Go.AB
namespace Go.AB
open Go Go.RowKit
open Go.PB (aq ah PlaceD av ax aw)
def ubr (P : Program) (k u : TypeId) : Bool := match P.underlying k with
 | some (.struct fs) => (match fs.toList with
  | [a, b, c] => a.type == u && b.type == u && c.type == u && a.offset == 0 && b.offset == 1 && c.offset == 2 && fs.all (·.name != "_")
  | _ => false)
 | _ => false
theorem key3 {P : Program} {k u : TypeId} (h : ubr P k u = true) (hu : P.underlying u = some (.int .i64)) (h3 : P.cellsOf k = 3) (h1 : P.cellsOf u = 1) (hk : P.keyType k = true) (hm : ∃ m, P.types.size = m + 3) {x y z : Int} (hx : (Lit.int .i64 x).wf = true) (hy : (Lit.int .i64 y).wf = true) (hz : (Lit.int .i64 z).wf = true) : ∃ l, keyOf P k (.agg #[.int .i64 x, .int .i64 y, .int .i64 z]) = some l := by
 obtain ⟨m, hm⟩ := hm
 unfold ubr at h
 split at h
 ·rename_i fs hfs
  split at h
  ·rename_i a b c habc
   simp only [Bool.and_eq_true, beq_iff_eq] at h
   obtain ⟨⟨⟨⟨⟨⟨e1, e2⟩, e3⟩, e4⟩, e5⟩, e6⟩, e7⟩ := h
   have hf : (Value.agg #[.int .i64 x, .int .i64 y, .int .i64 z]).formed P k = true := by simp [Value.formed, hfs, h3]
   refine ⟨.string (keyBytes [.int .i64 x, .int .i64 y, .int .i64 z]), ?_⟩
   unfold keyOf
   rw [hfs]
   simp only [hk, hf, Bool.and_self, if_true]
   have hl : P.keyLits (P.types.size + 1) k (Value.agg #[.int .i64 x, .int .i64 y, .int .i64 z]).cells.toList = some [.int .i64 x, .int .i64 y, .int .i64 z] := by
    rw [hm]
    unfold Program.keyLits
    simp only [hfs, h3, h1, e1, e2, e3, e4, e5, e6, e7, habc, Value.cells]
    unfold Program.keyLits
    simp [hu, h1, e1, e2, e3, e4, e5, e6, hx, hy, hz]
   rw [hl]
   rfl
  ·cases h
 ·cases h
end Go.AB
namespace Go.Proofs.YtgffhbbcpgdjjaaDoor
set_option maxRecDepth 10000
open Go Go.RowKit Go.AB
open Go.PB (aq ah PlaceD av ax aw)
theorem ugr : Go.Maps.Keyed Tryd.prog 54 := Go.Maps.Keyed.of_law (deep_law_laid uiw (m := 2) (by omega) (of_decide_eq_true (by kernel_rfl)) (by kernel_rfl) (by kernel_rfl))
instance : KeyT Tryd.prog 54 PlaceD where
 keyed := ugr
 has {E w x v} h := by
  obtain ⟨vs, rfl, h1, _⟩ := R.agg_inv h
  match vs, h1 with
  | [a, b, c], h1 => exact key3 (u := 3) (by kernel_rfl) vf (by kernel_rfl) (by kernel_rfl) (by kernel_rfl) uib (tz (ua (h1.2 0 _ _ rfl rfl))) (tz (ua (h1.2 1 _ _ rfl rfl))) (tz (ua (h1.2 2 _ _ rfl rfl)))
  | [], h => exact absurd h.1 (by simp)
  | [_], h => exact absurd h.1 (by simp)
  | [_, _], h => exact absurd h.1 (by simp)
  | _ :: _ :: _ :: _ :: _, h => exact absurd h.1 (by simp)
end Go.Proofs.YtgffhbbcpgdjjaaDoor
namespace Go.AB
open Go Go.RowKit
open Go.AB.Enc (cells)
open Go.PB (aq ah PlaceD av ax aw bg am af cb ba cr c4)
/-- who is found, as a map -/
def f7 (f : PlaceD → Bool) : PlaceD → Option C := fun q => bif f q then some (.v (.bool true)) else none
theorem uae (f : PlaceD → Bool) (q : PlaceD) : (f7 f q).getD (mr (.bool false)) = .v (.bool (f q)) := by
 unfold f7
 cases f q <;> rfl
theorem uhi : f7 (fun q => decide (q ∈ ([] : List PlaceD))) = fun _ => none := by funext q; simp [f7]
theorem uhj {F : List PlaceD} {k : Nat} {q : PlaceD} (h : F[k]? = some q) : jg (f7 fun x => decide (x ∈ F.take k)) q (.v (.bool true)) = f7 fun x => decide (x ∈ F.take (k + 1)) := by
 funext x
 unfold jg f7
 have hm : decide (x ∈ F.take (k + 1)) = (decide (x ∈ F.take k) || decide (x = q)) := by
  rw [List.take_add_one, h, Option.toList_some, Bool.eq_iff_iff]; simp
 dsimp only
 by_cases e : x = q
 ·rw [hm, decide_eq_true e, Bool.or_true, if_pos e]; rfl
 rw [hm, decide_eq_false e, Bool.or_false, if_neg e]
theorem uad {F W : List PlaceD} (hW : W.Nodup) {k : Nat} {q : PlaceD} (h : W[k]? = some q) (hq : q ∈ F) : ou (f7 (fu F (W.take k))) q = f7 (fu F (W.take (k + 1))) := by
 funext x
 unfold ou f7
 rw [uaf hW h x]
 by_cases e : x = q
 ·rw [if_pos e, decide_eq_true e, decide_eq_true hq]; rfl
 rw [if_neg e, decide_eq_false e]; rfl
theorem uac {F W : List PlaceD} (hW : W.Nodup) {k : Nat} {q : PlaceD} (h : W[k]? = some q) (hq : q ∉ F) : jg (f7 (fu F (W.take k))) q (.v (.bool true)) = f7 (fu F (W.take (k + 1))) := by
 funext x
 unfold jg f7
 rw [uaf hW h x]
 by_cases e : x = q
 ·rw [if_pos e, decide_eq_true e, decide_eq_false hq]; rfl
 rw [if_neg e, decide_eq_false e]; rfl
theorem onceM_ne {f : PlaceD → Bool} {q : PlaceD} : f7 f q ≠ none ↔ f q = true := by
 unfold f7
 cases f q <;> simp
theorem wl {f : PlaceD → Bool} {q : PlaceD} {c : C} (h : f7 f q = some c) : c = .v (.bool true) := by
 unfold f7 at h
 cases hf : f q <;> rw [hf] at h
 ·cases h
 cases h; rfl
theorem lp (f : PlaceD → Bool) (n : Nat) : ∀ x c, f7 f x = some c → C.low n c := fun x c h => by rw [wl h]; exact .v
def rx (ks done : List PlaceD) : Nat := (ks.filter fun y => decide (y ∉ done)).length
theorem ua8 {ks done : List PlaceD} {y : PlaceD} (hy : y ∈ ks) (hn : y ∉ done) : rx ks (done ++ [y]) < rx ks done := by
 unfold rx
 induction ks with
 | nil => cases hy
 | cons z ks ih =>
  have hle : (ks.filter fun y' => decide (y' ∉ done ++ [y])).length ≤ (ks.filter fun y' => decide (y' ∉ done)).length := by
   rw [← List.countP_eq_length_filter, ← List.countP_eq_length_filter]
   refine List.countP_mono_left fun a _ ha => ?_
   simp only [decide_eq_true_eq, List.mem_append, not_or] at ha ⊢
   exact ha.1
  by_cases e : z = y
  ·subst e
   rw [List.filter_cons_of_neg (by simp), List.filter_cons_of_pos (by simpa using hn)]
   simp only [List.length_cons]
   omega
  have hy' : y ∈ ks := by
   rcases List.mem_cons.1 hy with h | h
   ·exact absurd h.symm e
   exact h
  have := ih hy'
  by_cases hz : z ∈ done
  ·rw [List.filter_cons_of_neg (by simp [hz]), List.filter_cons_of_neg (by simp [hz])]
   exact this
  rw [List.filter_cons_of_pos (by simp [hz, e]), List.filter_cons_of_pos (by simp [hz])]
  simp only [List.length_cons]
  omega
theorem ucz {p : af} {x : am} {q : PlaceD} {k : Nat} {last : Int} (hp : l5 p last x) (hB : dn p.text x = []) (hq : x.well[k]? = some q) : q ∉ x.found := fun hf => by
 have : q ∈ dn p.text x := by
  show q ∈ (f3 p.text).filter _
  rw [List.mem_filter, Bool.and_eq_true, decide_eq_true_eq, decide_eq_true_eq, allQ_mem]
  exact ⟨(ku hp.found hf).1, hf, List.mem_of_getElem? hq⟩
 rw [hB] at this; cases this
theorem z8 {p : PlaceD → Prop} : Ord3 p kb := by
 have key : ∀ a b, kb a b < 0 ↔ ltW (da a) (da b) := fun a b => ms (by rfl)
 refine ⟨fun x _ => ?_, fun x y z _ _ _ h k => ?_, fun x y z _ _ _ h k => ?_⟩
 ·rw [key]; exact nd _
 ·rw [key] at h k ⊢; exact px h k
 rw [key] at h k ⊢
 intro hxz
 by_cases h1 : ltW (da y) (da x)
 ·exact k (px h1 hxz)
 rw [w7 (a := da x) (b := da y) rfl h h1] at hxz; exact k hxz
def PBd9 (q : PlaceD) : Prop := (0 ≤ q.ch ∧ q.ch ≤ 100000) ∧ (0 ≤ q.ln ∧ q.ln ≤ 100000) ∧ 0 ≤ q.wd ∧ q.wd ≤ 100000
theorem PBd9.plain {a : PlaceD} (h : PBd9 a) : Plain (cells a) := fun c hc => by
 obtain ⟨h1, h2, h3⟩ := h
 have hc' : c ∈ [C.v (.int .i64 a.ch), C.v (.int .i64 a.ln), C.v (.int .i64 a.wd)] := hc
 simp only [List.mem_cons, List.not_mem_nil, or_false] at hc'
 rcases hc' with rfl | rfl | rfl
 ·exact ⟨_, rfl, j1 (by omega)⟩
 ·exact ⟨_, rfl, j1 (by omega)⟩
 exact ⟨_, rfl, j1 (by omega)⟩
theorem zk {t : ah} (ht : ff t = true) {q : PlaceD} (h : ga t q = true) : PBd9 q := by
 obtain ⟨l, hw, hw1, hw2⟩ := placeB_true.1 h
 have := vc ht hw
 exact ⟨by omega, by omega, by omega, by omega⟩
theorem uaa {p : af} {x : am} {last : Int} (hp : l5 p last x) {q : PlaceD} (h : fu x.found x.well q = true) : ga p.text q = true := by
 unfold fu at h
 by_cases h1 : q ∈ x.found
 ·exact (ku hp.found h1).1
 by_cases h2 : q ∈ x.well
 ·exact (ku hp.well h2).1
 simp [h1, h2] at h
theorem uab {p : af} {x : am} {last : Int} (hp : l5 p last x) (ht : ff p.text = true) {done : List PlaceD} (h : ∀ q ∈ done, fu x.found x.well q = true) : ∀ q ∈ done, PBd9 q := fun q hq => zk ht (uaa hp (h q hq))
theorem ukm {p : af} {x : am} {last : Int} (_ : l5 p last x) (ht : ff p.text = true) {q : PlaceD} (h : q ∈ dn p.text x) : PBd9 q := by
 have : q ∈ (f3 p.text).filter _ := h
 exact zk ht (allQ_mem.1 (List.mem_filter.1 this).1)
theorem tj {p : af} {x : am} {last : Int} (hp : l5 p last x) {done : List PlaceD} (hn : done.Nodup) (h : ∀ q ∈ done, fu x.found x.well q = true) : done.length ≤ (f3 p.text).length :=
 uak hn fun q hq => allQ_mem.2 (uaa hp (h q hq))
section
variable {P : Program} {o : Oper} {st : St} {K : St → Prop}
/-- A slice that is nil is nil. -/
theorem ujt {t t' e : TypeId} [Elt P t e] {x : Operand} {rows : List (List C)} (ho : o.op = .binOp .eql t x (.const (.slice none 0 0)) t') (hx : evC st x = .list rows .nil) (h : K (st.put o.dst (.v (.bool true)))) : EStep P o st K :=
 ji fun E w a hsim => by
  have hr := hx ▸ hsim.ev x
  obtain ⟨ad, cap, _, _, hv, h1, _, _, _, _, _, h7, z1, _⟩ := R.list_inv hr
  obtain ⟨rfl, rfl⟩ := z1 rfl
  have q1 := Elt.spec (P := P) (t := t) (e := e)
  refine ⟨.bool true, w, E, st.G, st.nx, .v (.bool true), ?_, Ev.refl E w, .v rfl, hsim.g, h⟩
  have hq := run_equal_slice_nil (P := P) w t e none rows.length 0 q1
  have he2 : a.eval (.const (.slice none 0 0)) = .slice none 0 0 := rfl
  simp [execOp, ho, hv, he2, eqGuard, binOp, hq]
/-- .. one in which something is, is not. -/
theorem uck {t t' e : TypeId} [Elt P t e] {x : Operand} {rows : List (List C)} {tok : Tok} (hne : rows ≠ []) (ho : o.op = .binOp .eql t x (.const (.slice none 0 0)) t') (hx : evC st x = .list rows tok) (h : K (st.put o.dst (.v (.bool false)))) : EStep P o st K :=
 ucl ho hx fun b hb => by rw [hb hne]; exact h
end
end Go.AB
namespace Go.Proofs.YtgffhbbcpgdjjaaDoor
set_option maxRecDepth 10000
open Go Go.RowKit Go.AB
open Go.AB.Enc (cells)
open Go.PB (aq ah PlaceD av ax aw bg am af cb ba cr c4)
instance : Ty Tryd.prog (srt_Place_ren.t 24) true (Enc.n PlaceD) := inferInstanceAs (Ty Tryd.prog 54 true 3)
theorem uj6 : Pure Tryd.prog 91 [.list [] .nil] (.list [] .nil) := by
 refine dr Tryd.func91 rfl (fun m => (.list (fun r hr => by cases hr) (fun k hk => by cases hk))) fun G nx => ?_
 simp only [Tryd.ntmps91, List.length_cons, List.length_nil, Nat.reduceAdd, Nat.reduceSub]
 refine bv fun hlt => ?_
 dsimp only at hlt
 refine yS fun _ K1 => ?_
 refine yR ?_
 refine yA rfl rfl ?_
 refine yN ?_
 dsimp only [St.put]
 refine K1 _ ?_
 refine yS fun _ K2 => ?_
 refine yS fun _ K3 => ?_
 refine yR ?_
 refine yM rfl rfl ?_
 refine ab rfl (ujt rfl rfl ?_)
 refine yN ?_
 dsimp only [St.put]
 refine K3 _ ?_
 refine bc rfl (fun hc => ?_) (fun hc => ?_)
 ·try replace hc := of_decide_eq_true hc
  refine yS fun _ K4 => ?_
  refine yR ?_
  refine yA rfl rfl ?_
  refine yN ?_
  dsimp only [St.put]
  refine K4 _ ?_
  refine ay ?_
  refine cg rfl (by constructor) zN zS ?_
  rfl
 try replace hc := of_decide_eq_false hc
 refine bi ?_
 refine K2 _ ?_
 refine yS fun _ K5 => ?_
 refine yR ?_
 try dsimp only [St.put]
 refine ab rfl (un rfl ?_)
 refine yM rfl rfl ?_
 try dsimp only [St.put]
 refine ab rfl (xr rfl rfl (.inl rfl) rfl (show 1 ≤ 3 by decide) (fun r hr => by cases hr) (by simp) (by simp) ?_)
 refine yA rfl rfl ?_
 refine yN ?_
 dsimp only [St.put]
 refine K5 _ ?_
 refine ay ?_
 exact absurd hc (by decide)
theorem uj5 (l : List PlaceD) (hne : l ≠ []) (hl : l.length ≤ 1000) (G : Nat → Option GObj) (nx : Nat) : PC Tryd.prog 91 [lst l] G nx fun r G' nx' => r = .own nx 0 l.length ∧ G' = aj G nx (.arr 0 0 54 3 l.length (cp l)) ∧ nx' = nx + 1 := by
 refine gk (aj G nx (.arr 0 0 54 3 l.length (cp l))) (nx + 1) Tryd.func91 rfl (.own (Nat.lt_succ_self _)) zN (fun hlt => (by (repeat' (refine jt ?_ (by (try dsimp only); omega) ?_)); all_goals (first | exact ju zS | (repeat' (first | exact trivial | refine ⟨?_, ?_⟩ | exact .v | exact .any | refine .elem ?_ | exact bd _ _ | exact e8 _ _ | exact dz _ _ | exact fe _ (by (try dsimp only); omega) | exact .box (by (try dsimp only); omega) | exact em | exact cv | exact ec _ | refine fg ?_ ?_ | exact .arr (by (try dsimp only); omega) | exact .own (by (try dsimp only); omega) | exact .map (by (try dsimp only); omega) | exact ec _ | refine bn ?_ ?_ | exact bd _ _))))) ?_
 simp only [Tryd.ntmps91, List.length_cons, List.length_nil, Nat.reduceAdd, Nat.reduceSub]
 refine bv fun hlt => ?_
 dsimp only at hlt
 refine yS fun _ K1 => ?_
 refine yR ?_
 refine yA rfl rfl ?_
 refine yN ?_
 dsimp only [St.put]
 refine K1 _ ?_
 refine yS fun _ K2 => ?_
 refine yS fun _ K3 => ?_
 refine yR ?_
 refine yM rfl rfl ?_
 refine ab rfl (uck (fun e => hne (by simpa using e)) rfl rfl ?_)
 refine yN ?_
 dsimp only [St.put]
 refine K3 _ ?_
 refine bc rfl (fun hc => ?_) (fun hc => ?_)
 ·try replace hc := of_decide_eq_true hc
  refine yS fun _ K4 => ?_
  refine yR ?_
  refine yA rfl rfl ?_
  refine yN ?_
  dsimp only [St.put]
  refine K4 _ ?_
  refine ay ?_
  exact absurd hc (by decide)
 try replace hc := of_decide_eq_false hc
 refine bi ?_
 refine K2 _ ?_
 refine yS fun _ K5 => ?_
 refine yR ?_
 try dsimp only [St.put]
 refine ab rfl (un rfl ?_)
 refine yM rfl rfl ?_
 try dsimp only [St.put]
 refine ab rfl (ucq l rfl rfl (.inl rfl) rfl rfl hne (by decide) (by omega) (by omega) ?_)
 refine yA rfl rfl ?_
 refine yN ?_
 dsimp only [St.put]
 refine K5 _ ?_
 refine ay ?_
 refine cg rfl (by constructor) zN zS ?_
 rfl
set_option maxHeartbeats 4000000 in
theorem ull (p : af) (last : Int) (x : am) (ws : List Int) (al bo : List (List PlaceD)) (nB a1 a2 a3 V : Nat) (ht : ff p.text = true) (hp : l5 p last x) (hw : ws.length ≤ 100) (ha : al.length ≤ 100) (hb : bo.length ≤ 100) (G : Nat → Option GObj) (nx : Nat) (hN : nB < nx) (h1 : a1 < nx) (h2 : a2 < nx) (h3 : a3 < nx) (d1 : nB ≠ a1) (d2 : nB ≠ a2) (d3 : nB ≠ a3) (d4 : a1 ≠ a2) (d5 : a1 ≠ a3) (d6 : a2 ≠ a3)
  (hGB : G nB = some (((.box (V) [lst p.text, lst p.firsts, lst p.seconds, lst p.pages, .list ((ws).map cells) (.tip a1), .list ((al).map cells) (.tip a2), .list ((bo).map cells) (.tip a3)])))) (hG1 : G a1 = some (.tip ws.length 3 1)) (hG2 : G a2 = some (.tip al.length 36 1)) (hG3 : G a3 = some (.tip bo.length 36 1)) :
  PC Tryd.prog 70 [.box nB 0 0, val x, lst (km p.text p.text.length)] G nx fun r' G' nx' => r' = .tup [] ∧ G' = aj (aj (aj (aj G nB (((.box ((V + 1 + 1 + 1)) [lst p.text, lst p.firsts, lst p.seconds, lst p.pages, .list (((ws ++ [(fb p.text x : Int)])).map cells) (.tip a1), .list (((al ++ [ed p.text x])).map cells) (.tip a2), .list (((bo ++ [dn p.text x])).map cells) (.tip a3)])))) a1 (.tip (ws ++ [(fb p.text x : Int)]).length 3 1)) a2 (.tip (al ++ [ed p.text x]).length 36 1)) a3 (.tip (bo ++ [dn p.text x]).length 36 1) ∧ nx' = nx := by
 refine gk (aj (aj (aj (aj G nB (((.box ((V + 1 + 1 + 1)) [lst p.text, lst p.firsts, lst p.seconds, lst p.pages, .list (((ws ++ [(fb p.text x : Int)])).map cells) (.tip a1), .list (((al ++ [ed p.text x])).map cells) (.tip a2), .list (((bo ++ [dn p.text x])).map cells) (.tip a3)])))) a1 (.tip (ws ++ [(fb p.text x : Int)]).length 3 1)) a2 (.tip (al ++ [ed p.text x]).length 36 1)) a3 (.tip (bo ++ [dn p.text x]).length 36 1)) (nx) Tryd.func70 rfl (.tup cv) zN (fun hlt => zH) ?_
 simp only [Tryd.ntmps70, List.length_cons, List.length_nil, Nat.reduceAdd, Nat.reduceSub]
 refine bv fun hlt => ?_
 dsimp only at hlt
 obtain ⟨hl1, hl2, hl3⟩ := m5 ht
 have hal := o7 ht
 have hnd1 := vq (uk hp.found)
 have hnd2 := vq (uk hp.well)
 have hfl := nl hp.found
 have hwl := nl hp.well
 have hbl := uc2 p.text x
 have hgl := ui p.text x
 have hwx := vd p.text x
 have hwt : ∀ (f : PlaceD → Bool) (l : List PlaceD), (l.filter f).length ≤ l.length := fun f l => List.length_filter_le f l
 have hstl := yp p.text p.text.length
 have hmw : x.well.take x.well.length = x.well := List.take_length
 refine yS fun _ K1 => ?_
 refine yR ?_
 try dsimp only [St.put]
 refine yB rfl rfl rfl ?_
 refine yN ?_
 dsimp only [St.put]
 refine K1 _ ?_
 refine yS fun _ K2 => ?_
 refine yR ?_
 refine yA rfl rfl ?_
 refine yN ?_
 dsimp only [St.put]
 rw [show (0 : Int) = ((iw p.text x (f3 (p.text.take 0)) : Nat) : Int) from rfl]
 refine K2 _ ?_
 refine yS fun _ K3 => ?_
 refine yS fun _ K4 => ?_
 refine yR ?_
 refine yM rfl rfl ?_
 refine aa rfl (jp rfl rfl) ?_
 refine aa rfl (cm rfl rfl) ?_
 refine aa rfl (cm rfl rfl) ?_
 refine aa rfl (cm rfl rfl) ?_
 try dsimp only [St.put]
 refine ae rfl (ci rfl rfl zG trivial (by first | rfl | assumption)) ?_
 refine aa rfl (cc rfl rfl (List.length_map _)) ?_
 refine yM rfl rfl ?_
 refine yN ?_
 dsimp only [St.put]
 refine K4 _ ?_
 refine cd ?_
 refine du 27 ?_
 refine zQ ?_
 refine et (X := Nat) (fun k => k ≤ p.text.length) (fun k => p.text.length - k) (fun k => [(6, .v (.int .i64 ((iw p.text x (f3 (p.text.take k)) : Nat) : Int))), (7, .any), (8, .any), (9, .any), (10, .any), (26, .v (.int .i64 (k : Int)))]) (fun k G' => G') 0 rfl ?_ ?_ (fun _ _ h => h) ?_ ?_ ?_
 ·exact Nat.zero_le _
 ·exact zF
 ·rintro k hI
  exact zL
 ·exact fun _ _ _ _ h => .inl h
 rintro k hI
 dsimp only at hI ⊢
 refine yS fun _ K5 => ?_
 refine yR ?_
 refine aa rfl (dp rfl rfl rfl) ?_
 refine yN ?_
 dsimp only [St.put]
 refine K5 _ ?_
 refine yS fun _ K6 => ?_
 refine bc rfl (fun hc => ?_) (fun hc => ?_)
 ·replace hc := of_decide_eq_true hc
  obtain ⟨c, hcx⟩ : ∃ c, p.text[k]? = some c := fl (by omega)
  have hll := (hl3 c (jh hcx)).2.1
  have hwo := (hl3 c (jh hcx)).2.2
  have hst := yq (t := p.text) (k := p.text.length) (i := k) (by omega)
  have hsb := s4 ht k (by omega)
  refine bi ?_
  refine K6 _ ?_
  refine yS fun _ K7 => ?_
  refine cd ?_
  refine yS fun _ K8 => ?_
  refine yR ?_
  refine yM rfl rfl ?_
  refine aa rfl (c5 rfl rfl rfl rfl (c7 (by assumption)) (Enc.len _)) ?_
  refine yE rfl rfl rfl ?_
  try dsimp only [St.put]
  refine ab rfl (dg rfl ?_)
  refine yA rfl rfl ?_
  try dsimp only [St.put]
  refine ab rfl (cn rfl rfl rfl zG rfl rfl (by rfl) ?_)
  refine yN ?_
  dsimp only [St.put]
  refine K8 _ ?_
  refine fj (i := 8) rfl zG zC ?_
  dsimp only
  refine yS fun _ K9 => ?_
  refine yR ?_
  refine yF rfl rfl rfl rfl ?_
  refine yL rfl rfl rfl ?_
  refine aa rfl (cc rfl rfl (List.length_map _)) ?_
  refine yM rfl rfl ?_
  refine yN ?_
  dsimp only [St.put]
  rw [uk5 p.text k c.lines]
  refine K9 _ ?_
  refine cd ?_
  refine du 35 ?_
  refine zQ ?_
  refine et (X := Nat) (fun n => n ≤ c.lines.length) (fun n => c.lines.length - n) (fun n => [(6, .v (.int .i64 ((iw p.text x (gq p.text k c.lines n) : Nat) : Int))), (9, .any), (10, .any), (34, .v (.int .i64 (n : Int)))]) (fun n G' => G') 0 rfl ?_ ?_ (fun _ _ h => h) ?_ ?_ ?_
  ·exact Nat.zero_le _
  ·exact zF
  ·rintro n hI
   exact zL
  ·exact fun _ _ _ _ h => .inl h
  rintro n hJ
  dsimp only at hJ ⊢
  refine yS fun _ K10 => ?_
  refine yR ?_
  refine aa rfl (dp rfl rfl rfl) ?_
  refine yN ?_
  dsimp only [St.put]
  refine K10 _ ?_
  refine yS fun _ K11 => ?_
  refine bc rfl (fun hc => ?_) (fun hc => ?_)
  ·replace hc := of_decide_eq_true hc
   obtain ⟨l, hn⟩ : ∃ l, c.lines[n]? = some l := fl (by omega)
   have hlb := hwo l (jh hn)
   have hqb : iw p.text x (gq p.text k c.lines n) ≤ 600 := by
    have hle := uk4 ht hcx hn 0
    rw [← uk3] at hle
    have := hwt (i1 p.text x) (gq p.text k c.lines n)
    unfold iw
    omega
   refine bi ?_
   refine K11 _ ?_
   refine yS fun _ K12 => ?_
   refine cd ?_
   refine yS fun _ K13 => ?_
   refine yR ?_
   refine yM rfl rfl ?_
   refine aa rfl (c5 rfl rfl rfl rfl (c7 (by assumption)) (Enc.len _)) ?_
   refine yL rfl rfl rfl ?_
   refine yA rfl rfl ?_
   refine yA rfl rfl ?_
   refine yN ?_
   dsimp only [St.put]
   refine K13 _ ?_
   refine yS fun _ K14 => ?_
   refine ia [(0, none), (1, none), (2, none), (3, none), (4, none), (5, none), (6, none), (7, none), (8, none), (9, none), (10, none), (11, none)] (fun i => [11].contains i) (fun i => [10, 11].contains i) (fun i => [0, 2, 4, 5, 6, 8, 9].contains i) [] (by kernel_rfl) (by kernel_rfl) ?_
   refine ai rfl rfl rfl rfl (c6 rfl rfl rfl) ?_
   try dsimp only [St.put]
   refine ak rfl rfl rfl rfl (bw rfl rfl) ?_
   refine ai rfl rfl rfl rfl (c6 rfl rfl rfl) ?_
   try dsimp only [St.put]
   refine ak rfl rfl rfl rfl (bw rfl rfl) ?_
   refine xM rfl rfl rfl rfl rfl ?_
   refine xM rfl rfl rfl rfl rfl ?_
   try dsimp only [St.put]
   refine ai rfl rfl rfl rfl (c5 rfl rfl rfl rfl (c7 (by assumption)) (Enc.len _)) ?_
   try dsimp only [St.put]
   refine ak rfl rfl rfl rfl (bw rfl rfl) ?_
   refine xM rfl rfl rfl rfl rfl ?_
   refine ai rfl rfl rfl rfl (ct rfl rfl rfl (by omega)) ?_
   refine jb ?_
   try dsimp only [St.put]
   refine ki rfl rfl rfl (cy rfl rfl rfl (by decide) (by decide) zR (by decide) ⟨zD, ?_⟩)
   try dsimp only [St.put]
   refine gz rfl rfl rfl rfl (az rfl rfl rfl (ll _ _ [_]) ?_)
   refine ja ?_
   dsimp only [St.put]
   refine K14 _ ?_
   refine bc rfl (fun hc => ?_) (fun hc => ?_)
   ·have hpg : inB ((g3 p.text k : Int) + (n : Int)) x.fr x.to = true := by rw [fw] at hc; exact hc
    refine yR ?_
    refine yM rfl rfl ?_
    refine yM rfl rfl ?_
    refine aa rfl (cc rfl rfl (List.length_map _)) ?_
    refine aa rfl (ct rfl rfl rfl (by omega)) ?_
    refine yA rfl rfl ?_
    refine yN ?_
    dsimp only [St.put]
    refine K12 _ ?_
    refine yR ?_
    refine aa rfl (ct rfl rfl rfl (by omega)) ?_
    refine yM rfl rfl ?_
    refine yN ?_
    dsimp only [St.put]
    have e := yg p.text x (k := k) hn
    first
    | (rw [hpg, cond_true] at e
       rw [show ((iw p.text x (gq p.text k c.lines n) : Nat) : Int) + (l.length : Int) = ((iw p.text x (gq p.text k c.lines (n + 1)) : Nat) : Int) by rw [e]; rfl]
       exact ⟨n + 1, by omega, by omega, ⟨⟨rfl, rfl⟩, zF, zB, zN, zX⟩⟩)
    | (rw [hpn, cond_false] at e
       rw [show iw p.text x (gq p.text k c.lines n) = iw p.text x (gq p.text k c.lines (n + 1)) from e.symm]
       exact ⟨n + 1, by omega, by omega, ⟨⟨rfl, rfl⟩, zF, zB, zN, zX⟩⟩)
   have hpn : inB ((g3 p.text k : Int) + (n : Int)) x.fr x.to = false := by rw [fw] at hc; exact hc
   refine bi ?_
   refine K12 _ ?_
   refine yR ?_
   refine aa rfl (ct rfl rfl rfl (by omega)) ?_
   refine yM rfl rfl ?_
   refine yN ?_
   dsimp only [St.put]
   have e := yg p.text x (k := k) hn
   first
   | (rw [hpg, cond_true] at e
      rw [show ((iw p.text x (gq p.text k c.lines n) : Nat) : Int) + (l.length : Int) = ((iw p.text x (gq p.text k c.lines (n + 1)) : Nat) : Int) by rw [e]; rfl]
      exact ⟨n + 1, by omega, by omega, ⟨⟨rfl, rfl⟩, zF, zB, zN, zX⟩⟩)
   | (rw [hpn, cond_false] at e
      rw [show iw p.text x (gq p.text k c.lines n) = iw p.text x (gq p.text k c.lines (n + 1)) from e.symm]
      exact ⟨n + 1, by omega, by omega, ⟨⟨rfl, rfl⟩, zF, zB, zN, zX⟩⟩)
  replace hc := of_decide_eq_false hc
  refine el ?_
  refine K7 _ ?_
  refine yR ?_
  refine aa rfl (ct rfl rfl rfl (by omega)) ?_
  refine yM rfl rfl ?_
  refine yN ?_
  dsimp only [St.put]
  rw [uk6 (n := n) hcx (by omega)]
  exact ⟨k + 1, by omega, by omega, ⟨⟨rfl, rfl⟩, zF, zB, zN, zX⟩⟩
 replace hc := of_decide_eq_false hc
 obtain rfl : k = p.text.length := by omega
 rw [List.take_length, uec]
 refine el ?_
 refine K3 _ ?_
 refine yS fun _ K15 => ?_
 refine yR ?_
 try dsimp only [St.put]
 refine ab rfl (xo (α := PlaceD) rfl ?_)
 refine yA rfl rfl ?_
 refine yN ?_
 dsimp only [St.put]
 refine K15 _ ?_
 refine yS fun _ K16 => ?_
 refine yS fun _ K17 => ?_
 refine yR ?_
 refine yF rfl rfl rfl rfl ?_
 refine yL rfl rfl rfl ?_
 refine aa rfl (cc rfl rfl (List.length_map _)) ?_
 refine yM rfl rfl ?_
 refine yN ?_
 dsimp only [St.put]
 refine K17 _ ?_
 refine cd ?_
 refine du 62 ?_
 refine zQ ?_
 refine fa ((aj G nx (gp Tryd.prog 54 (0) ((fun _ => none))))) zX ?_
 dsimp only
 refine et (X := Nat) (fun k => k ≤ x.found.length) (fun k => x.found.length - k) (fun k => [(13, .any), (61, .v (.int .i64 (k : Int)))]) (fun k G' => (aj G nx (gp Tryd.prog 54 (k) ((f7 fun q => decide (q ∈ x.found.take k)))))) 0 rfl ?_ ?_ ?_ ?_ ?_ ?_
 ·exact Nat.zero_le _
 ·exact zF
 ·rw [show (f7 fun q => decide (q ∈ x.found.take 0)) = fun _ => none from uhi]
  exact zX
 ·rintro k hI
  exact (by (try dsimp only); repeat' (first | exact trivial | refine ⟨?_, ?_⟩ | exact .v | exact .any | refine .elem ?_ | exact bd _ _ | exact e8 _ _ | exact dz _ _ | exact fe _ (by (try dsimp only); omega) | exact .box (by (try dsimp only); omega) | exact em | exact cv | exact gn (lp _ _) | refine fg ?_ ?_ | exact .arr (by (try dsimp only); omega) | exact .own (by (try dsimp only); omega) | exact .map (by (try dsimp only); omega) | exact ec _ | refine bn ?_ ?_ | exact bd _ _))
 ·rintro k hI
  exact (by (repeat' (refine jt ?_ (by (try dsimp only); omega) ?_)); all_goals (first | exact ju zS | (repeat' (first | exact trivial | refine ⟨?_, ?_⟩ | exact .v | exact .any | refine .elem ?_ | exact bd _ _ | exact e8 _ _ | exact dz _ _ | exact fe _ (by (try dsimp only); omega) | exact .box (by (try dsimp only); omega) | exact em | exact cv | exact gn (lp _ _) | refine fg ?_ ?_ | exact .arr (by (try dsimp only); omega) | exact .own (by (try dsimp only); omega) | exact .map (by (try dsimp only); omega) | exact ec _ | refine bn ?_ ?_ | exact bd _ _))))
 rintro k hK
 dsimp only at hK ⊢
 refine yS fun _ K18 => ?_
 refine yR ?_
 refine aa rfl (dp rfl rfl rfl) ?_
 refine yN ?_
 dsimp only [St.put]
 refine K18 _ ?_
 refine yS fun _ K19 => ?_
 refine bc rfl (fun hc => ?_) (fun hc => ?_)
 ·replace hc := of_decide_eq_true hc
  obtain ⟨q, hq⟩ : ∃ q, x.found[k]? = some q := fl (by omega)
  refine bi ?_
  refine K19 _ ?_
  refine yS fun _ K20 => ?_
  refine cd ?_
  refine yS fun _ K21 => ?_
  refine yR ?_
  refine aa rfl (c5 rfl rfl rfl rfl (c7 (by assumption)) (Enc.len _)) ?_
  refine yE rfl rfl rfl ?_
  try dsimp only [St.put]
  refine ab rfl (dg rfl ?_)
  try dsimp only [St.put]
  refine ab rfl (cn rfl rfl rfl zG rfl rfl (by rfl) ?_)
  refine yN ?_
  dsimp only [St.put]
  refine K21 _ ?_
  refine fj (i := 13) rfl zG zC ?_
  dsimp only
  refine yR ?_
  refine yM rfl rfl ?_
  refine yE rfl rfl rfl ?_
  try dsimp only [St.put]
  refine ab rfl (se (q) rfl rfl rfl zG rfl (uhj hq) ?_)
  refine yN ?_
  dsimp only [St.put]
  refine K20 _ ?_
  refine yR ?_
  refine aa rfl (ct rfl rfl rfl (by omega)) ?_
  refine yM rfl rfl ?_
  refine yN ?_
  dsimp only [St.put]
  exact ⟨k + 1, by omega, by omega, ⟨⟨rfl, rfl⟩, zF, zB, zN, zX⟩⟩
 replace hc := of_decide_eq_false hc
 obtain rfl : k = x.found.length := by omega
 rw [List.take_length, show (fun q => decide (q ∈ x.found)) = fu x.found (x.well.take 0) from funext fun q => (uhk x.found q).symm]
 refine el ?_
 refine K16 _ ?_
 refine yS fun _ K22 => ?_
 by_cases hB : dn p.text x = []
 ·refine yR ?_
  refine yA rfl rfl ?_
  refine yN ?_
  dsimp only [St.put]
  refine K22 _ ?_
  refine yS fun _ K23 => ?_
  refine yS fun _ K24 => ?_
  refine yR ?_
  refine yF rfl rfl rfl rfl ?_
  refine yL rfl rfl rfl ?_
  refine aa rfl (cc rfl rfl (List.length_map _)) ?_
  refine yM rfl rfl ?_
  refine yN ?_
  dsimp only [St.put]
  refine K24 _ ?_
  refine cd ?_
  refine du 72 ?_
  refine zQ ?_
  refine fa ((aj G nx (gp Tryd.prog 54 (x.found.length) ((f7 (fu x.found (x.well.take 0))))))) zX ?_
  dsimp only
  refine et (X := Nat) (fun k => k ≤ x.well.length) (fun k => x.well.length - k) (fun k => [(16, .any), (71, .v (.int .i64 (k : Int)))]) (fun k G' => (aj G nx (gp Tryd.prog 54 ((x.found.length + k)) ((f7 (fu x.found (x.well.take k))))))) 0 rfl ?_ ?_ ?_ ?_ ?_ ?_
  ·exact Nat.zero_le _
  ·exact zF
  ·exact zX
  ·rintro k hI
   exact (by (try dsimp only); repeat' (first | exact trivial | refine ⟨?_, ?_⟩ | exact .v | exact .any | refine .elem ?_ | exact bd _ _ | exact e8 _ _ | exact dz _ _ | exact fe _ (by (try dsimp only); omega) | exact .box (by (try dsimp only); omega) | exact em | exact cv | exact gn (lp _ _) | refine fg ?_ ?_ | exact .arr (by (try dsimp only); omega) | exact .own (by (try dsimp only); omega) | exact .map (by (try dsimp only); omega) | exact ec _ | refine bn ?_ ?_ | exact bd _ _))
  ·rintro k hI
   exact (by (repeat' (refine jt ?_ (by (try dsimp only); omega) ?_)); all_goals (first | exact ju zS | (repeat' (first | exact trivial | refine ⟨?_, ?_⟩ | exact .v | exact .any | refine .elem ?_ | exact bd _ _ | exact e8 _ _ | exact dz _ _ | exact fe _ (by (try dsimp only); omega) | exact .box (by (try dsimp only); omega) | exact em | exact cv | exact gn (lp _ _) | refine fg ?_ ?_ | exact .arr (by (try dsimp only); omega) | exact .own (by (try dsimp only); omega) | exact .map (by (try dsimp only); omega) | exact ec _ | refine bn ?_ ?_ | exact bd _ _))))
  rintro k hK
  dsimp only at hK ⊢
  refine yS fun _ K25 => ?_
  refine yR ?_
  refine aa rfl (dp rfl rfl rfl) ?_
  refine yN ?_
  dsimp only [St.put]
  refine K25 _ ?_
  refine yS fun _ K26 => ?_
  refine bc rfl (fun hc => ?_) (fun hc => ?_)
  ·replace hc := of_decide_eq_true hc
   obtain ⟨q, hq⟩ : ∃ q, x.well[k]? = some q := fl (by omega)
   have hbt := uc1 x.found x.well k
   refine bi ?_
   refine K26 _ ?_
   refine yS fun _ K27 => ?_
   refine cd ?_
   refine yS fun _ K28 => ?_
   refine yR ?_
   refine aa rfl (c5 rfl rfl rfl rfl (c7 (by assumption)) (Enc.len _)) ?_
   refine yE rfl rfl rfl ?_
   try dsimp only [St.put]
   refine ab rfl (dg rfl ?_)
   try dsimp only [St.put]
   refine ab rfl (cn rfl rfl rfl zG rfl rfl (by rfl) ?_)
   refine yN ?_
   dsimp only [St.put]
   refine K28 _ ?_
   refine fj (i := 16) rfl zG zC ?_
   dsimp only
   refine yS fun _ K29 => ?_
   refine yR ?_
   refine yM rfl rfl ?_
   refine yE rfl rfl rfl ?_
   try dsimp only [St.put]
   refine ae rfl (td q rfl rfl zG trivial rfl (uae _ _)) ?_
   refine yN ?_
   dsimp only [St.put]
   refine K29 _ ?_
   refine bc rfl (fun hc => ?_) (fun hc => ?_)
   ·have hin : q ∈ x.found := by
     rw [tm hnd2 hq] at hc
     exact of_decide_eq_true hc
    refine yS fun _ K30 => ?_
    refine yR ?_
    refine yM rfl rfl ?_
    refine yE rfl rfl rfl ?_
    try dsimp only [St.put]
    refine ab rfl (cy rfl rfl rfl (by decide) (by decide) zR (by decide) ?_)
    try dsimp only [St.put]
    refine ab rfl (xr rfl rfl (.inr rfl) rfl (show 1 ≤ 3 by decide) (fun r hr => by rw [List.mem_singleton] at hr; subst hr; rfl) (by simp) (by simp) ?_)
    refine yA rfl rfl ?_
    refine yN ?_
    dsimp only [St.put]
    refine K30 _ ?_
    refine yR ?_
    refine yM rfl rfl ?_
    refine yE rfl rfl rfl ?_
    try dsimp only [St.put]
    refine ab rfl (ucm q rfl rfl zG rfl (uad hnd2 hq hin) ?_)
    refine yN ?_
    dsimp only [St.put]
    refine K27 _ ?_
    refine yR ?_
    refine aa rfl (ct rfl rfl rfl (by omega)) ?_
    refine yM rfl rfl ?_
    refine yN ?_
    dsimp only [St.put]
    first
    | exact absurd (show q ∈ x.found from hin) (ucz hp hB hq)
    | exact ⟨k + 1, by omega, by omega, ⟨⟨rfl, rfl⟩, zF, zB, zN, zX⟩⟩
   have hout : q ∉ x.found := by
    rw [tm hnd2 hq] at hc
    exact of_decide_eq_false hc
   refine yR ?_
   refine yM rfl rfl ?_
   refine yE rfl rfl rfl ?_
   try dsimp only [St.put]
   refine ab rfl (se (q) rfl rfl rfl zG rfl (uac hnd2 hq hout) ?_)
   refine yN ?_
   dsimp only [St.put]
   refine K27 _ ?_
   refine yR ?_
   refine aa rfl (ct rfl rfl rfl (by omega)) ?_
   refine yM rfl rfl ?_
   refine yN ?_
   dsimp only [St.put]
   first
   | exact absurd (show q ∈ x.found from hin) (ucz hp hB hq)
   | exact ⟨k + 1, by omega, by omega, ⟨⟨rfl, rfl⟩, zF, zB, zN, zX⟩⟩
  replace hc := of_decide_eq_false hc
  obtain rfl : k = x.well.length := by omega
  refine el ?_
  refine K23 _ ?_
  refine yS fun _ K31 => ?_
  refine yR ?_
  refine yM rfl rfl ?_
  try dsimp only [St.put]
  refine ab rfl (az rfl rfl rfl (uj6) ?_)
  refine yA rfl rfl ?_
  refine yN ?_
  dsimp only [St.put]
  refine K31 _ ?_
  refine ukx 17 54 3 rfl (by decide) ?_
  dsimp only
  refine yS fun _ K32 => ?_
  refine yS fun _ K33 => ?_
  refine yR ?_
  refine yM rfl rfl ?_
  try dsimp only [St.put]
  refine ab rfl (uci rfl rfl zG fun r β cl ks hnd hks0 hinj => ?_)
  refine yN ?_
  dsimp only [St.put]
  refine K33 _ ?_
  rw [hmw] at hks0
  rw [hmw]
  refine cd ?_
  refine du 91 ?_
  refine zQ ?_
  refine fa (aj (aj (aj (aj G nx (mq Tryd.prog 54 (x.found.length + x.well.length) (f7 (fu x.found x.well)) β cl)) (nx + 1) (.arr 0 0 54 3 0 [])) (nx + 1 + 1) (.raw 0 (.mapIter (some r) cl (g8 β ([] : List PlaceD)) cl))) (nx + 1 + 1 + 1) (.fact (.map (some r)) (.map nx))) zX ?_
  dsimp only
  refine et (X := List PlaceD × Nat × Nat × Nat) (fun y => (∀ z ∈ y.1, z ∈ ks) ∧ y.1.Nodup) (fun y => rx ks y.1) (fun y => [(17, .own (nx + 1) y.2.2.1 (([] : List PlaceD) ++ y.1).length), (18, .any)]) (fun y G' => (aj (aj (aj (aj G nx (mq Tryd.prog 54 ((x.found.length + x.well.length)) (f7 ((fu x.found x.well))) β cl)) ((nx + 1)) (.arr y.2.2.1 y.2.2.2 54 3 ((([] : List PlaceD) ++ y.1)).length (cp ((([] : List PlaceD) ++ y.1))))) ((nx + 1 + 1)) (.raw y.2.1 (.mapIter (some r) cl (g8 β y.1) cl))) ((nx + 1 + 1 + 1)) (.fact (.map (some r)) (.map nx)))) ([], 0, 0, 0) rfl ?_ ?_ ?_ ?_ ?_ ?_
  ·exact ⟨fun z hz => by simp at hz, List.nodup_nil⟩
  ·exact zF
  ·exact zX
  ·rintro ⟨done, wi, vl, wv⟩ hI
   exact (by (try dsimp only); repeat' (first | exact trivial | refine ⟨?_, ?_⟩ | exact .v | exact .any | refine .elem ?_ | exact bd _ _ | exact e8 _ _ | exact dz _ _ | exact fe _ (by (try dsimp only); omega) | exact .box (by (try dsimp only); omega) | exact em | exact cv | exact ug (lp _ _) | exact ec _ | refine fg ?_ ?_ | exact .arr (by (try dsimp only); omega) | exact .own (by (try dsimp only); omega) | exact .map (by (try dsimp only); omega) | exact ec _ | refine bn ?_ ?_ | exact bd _ _))
  ·rintro ⟨done, wi, vl, wv⟩ hI
   exact (by (repeat' (refine jt ?_ (by (try dsimp only); omega) ?_)); all_goals (first | exact ju zS | (repeat' (first | exact trivial | refine ⟨?_, ?_⟩ | exact .v | exact .any | refine .elem ?_ | exact bd _ _ | exact e8 _ _ | exact dz _ _ | exact fe _ (by (try dsimp only); omega) | exact .box (by (try dsimp only); omega) | exact em | exact cv | exact ug (lp _ _) | exact ec _ | refine fg ?_ ?_ | exact .arr (by (try dsimp only); omega) | exact .own (by (try dsimp only); omega) | exact .map (by (try dsimp only); omega) | exact ec _ | refine bn ?_ ?_ | exact bd _ _))))
  rintro ⟨done, wi, vl, wv⟩ hI8
  dsimp only at hI8 ⊢
  refine yS fun _ K34 => ?_
  refine yR ?_
  try dsimp only [St.put]
  refine ab rfl (ucj (done := done) rfl rfl zG zG zG (hks0) (hinj) (hI8.1) (fun hend => ?_) (fun y c hym hyk hyd => ?_))
  ·have hdl := tj hp hI8.2 (fun q hq => onceM_ne.1 ((hks0 q).2 (hI8.1 q hq)))
   have hdk : ∀ q, q ∈ done ↔ fu x.found x.well q = true := fun q => ⟨fun hq => onceM_ne.1 ((hks0 q).2 (hI8.1 q hq)), fun hq => hend q ((hks0 q).1 (onceM_ne.2 hq))⟩
   have hpb := uab hp ht (fun q hq => (hdk q).1 hq)
   refine yX rfl rfl rfl rfl ?_
   refine yN ?_
   dsimp only [St.put]
   refine K34 _ ?_
   refine yS fun _ K35 => ?_
   refine bc rfl (fun h => by cases h) (fun _ => ?_)
   refine el ?_
   refine K32 _ ?_
   refine yS fun _ K36 => ?_
   have hpb2 : ∀ y ∈ ([] : List PlaceD) ++ done, PBd9 y := fun y hy => hpb y (by simpa using hy)
   refine yR ?_
   refine yM rfl rfl ?_
   try dsimp only [St.put]
   refine ab rfl (uch yu PBd9 kb rfl rfl rfl rfl zG rfl rfl rfl (fun y hy => hy.plain) hpb2 (by first | (rw [List.length_append]; omega) | (simp only [List.nil_append]; omega)) (fun a b _ _ => wc a b _ _) z8 (fun ys hperm hsort => ?_))
   refine yN ?_
   dsimp only [St.put]
   have hlen := hperm.length_eq
   rw [← hB] at hperm hlen
   obtain rfl := udo hp hI8.2 hdk hperm hsort
   refine K36 _ ?_
   refine uu 14 (lst ([] : List PlaceD)) rfl Wk.tok ?_
   refine udi 17 (ed p.text x) rfl zG rfl rfl (by rw [hlen, hB]) ?_
   dsimp only
   refine udg [(0, none), (1, none), (2, none), (3, none), (4, none), (5, none), (6, none), (7, none), (10, none), (11, none), (12, none), (13, none), (14, none), (17, none), (18, none), (19, none), (20, none), (21, none)] (fun i => [23, 26, 29, 32].contains i) (fun i => [0, 1, 2, 3, 4, 5, 7, 10, 11, 12, 14, 17, 18, 19, 21].contains i) 15 (rl [8, 2, 5, 2, 5, 11]) [nB] (by kernel_rfl) (by kernel_rfl) ?_
   refine xM rfl rfl rfl rfl rfl ?_
   refine xM rfl rfl rfl rfl rfl ?_
   refine xM rfl rfl rfl rfl rfl ?_
   refine xM rfl rfl rfl rfl rfl ?_
   refine ai rfl rfl rfl rfl (jp rfl rfl) ?_
   refine ai rfl rfl rfl rfl (cm rfl rfl) ?_
   try dsimp only [St.put]
   refine ak rfl rfl rfl rfl (ci rfl rfl zG (by simp) (by first | rfl | assumption)) ?_
   refine xM rfl rfl rfl rfl rfl ?_
   refine xM rfl rfl rfl rfl rfl ?_
   refine ai rfl rfl rfl rfl (jp rfl rfl) ?_
   refine ai rfl rfl rfl rfl (cm rfl rfl) ?_
   try dsimp only [St.put]
   refine ak rfl rfl rfl rfl (ci rfl rfl zG (by simp) (by first | rfl | assumption)) ?_
   refine xM rfl rfl rfl rfl rfl ?_
   refine xM rfl rfl rfl rfl rfl ?_
   refine ai rfl rfl rfl rfl (jp rfl rfl) ?_
   refine ai rfl rfl rfl rfl (cm rfl rfl) ?_
   try dsimp only [St.put]
   refine ak rfl rfl rfl rfl (ci rfl rfl zG (by simp) (by first | rfl | assumption)) ?_
   refine xM rfl rfl rfl rfl rfl ?_
   refine fm ⟨zD, ?_⟩
   dsimp only [St.put]
   refine udt ws al bo (fb p.text x : Int) (ed p.text x) (([] : List PlaceD)) nB a1 a2 a3 _ rfl (by kernel_rfl) (by kernel_rfl) (by kernel_rfl) rfl rfl rfl rfl rfl rfl rfl rfl rfl rfl rfl rfl rfl zG zG zG zG d1 d2 d3 d4 d5 d6 hw ha hb ?_
   dsimp only
   refine qo [(24, none), (25, none)] 7 (rl [26, 7]) (by kernel_rfl) ?_
   refine ai rfl rfl rfl rfl (jp rfl rfl) ?_
   refine ai rfl rfl rfl rfl (cm rfl rfl) ?_
   refine fm ⟨zD, ?_⟩
   refine o9 [26] (by kernel_rfl) (by simp) ?_
   refine qm ?_ ?_
   ·try dsimp only [St.put]
    refine qj rfl rfl rfl rfl (gi rfl rfl rfl zG (by constructor) rfl zO ?_)
    refine qo [(27, none), (28, none)] 4 (rl [29, 4]) (by kernel_rfl) ?_
    refine ai rfl rfl rfl rfl (jp rfl rfl) ?_
    refine ai rfl rfl rfl rfl (cm rfl rfl) ?_
    refine fm ⟨zD, ?_⟩
    refine o9 [29] (by kernel_rfl) (by simp) ?_
    refine qm ?_ ?_
    ·try dsimp only [St.put]
     refine qj rfl rfl rfl rfl (gi rfl rfl rfl zG (by constructor) rfl zO ?_)
     refine qo [(30, none), (31, none)] 1 (rl [32, 1]) (by kernel_rfl) ?_
     refine ai rfl rfl rfl rfl (jp rfl rfl) ?_
     refine ai rfl rfl rfl rfl (cm rfl rfl) ?_
     refine fm ⟨zD, ?_⟩
     refine o9 [32] (by kernel_rfl) (by simp) ?_
     refine qm ?_ ?_
     ·try dsimp only [St.put]
      refine qj rfl rfl rfl rfl (gi rfl rfl rfl zG (by constructor) rfl zO ?_)
      dsimp only [St.put]
      refine udu (by kernel_rfl) ?_
      rw [hB]
      refine uca rfl (.inl rfl) zN (yo zG zG zG zG fun n o q1 q2 q3 q4 h => ?_)
      have hn := hlt n o h
      (try dsimp only)
      repeat (first | exact h | rw [gt (by omega)] | rw [kg (by omega)])
     exact ql
    exact ql
   exact ql
  have hz0 := wl hym
  subst hz0
  obtain ⟨z, hz⟩ : ∃ z, z = y := ⟨_, rfl⟩
  subst hz
  have hIn : ∀ z ∈ ks, ∀ x ∈ done ++ [z], x ∈ ks := fun z hz x hx => by
   rcases List.mem_append.1 hx with hx | hx
   ·exact hI8.1 x hx
   rw [List.mem_singleton] at hx; exact hx ▸ hz
  have hIu : ∀ z, z ∉ done → (done ++ [z]).Nodup := fun z hz => List.nodup_append.2 ⟨hI8.2, by simp, fun a ha b hb => by
   rw [List.mem_singleton] at hb; subst hb; exact fun e => hz (e ▸ ha)⟩
  have hdl := tj hp hI8.2 (fun q hq => onceM_ne.1 ((hks0 q).2 (hI8.1 q hq)))
  refine yX rfl rfl rfl rfl ?_
  refine yN ?_
  dsimp only [St.put]
  refine K34 _ ?_
  refine yS fun _ K37 => ?_
  refine bc rfl (fun _ => ?_) (fun h => by cases h)
  refine bi ?_
  refine K37 _ ?_
  refine cd ?_
  refine yS fun _ K38 => ?_
  refine yR ?_
  try dsimp only [St.put]
  refine ae rfl (y5 (fx := nx + 1 + 1 + 1) (n := nx) rfl rfl zG trivial zG zG trivial (by assumption)) ?_
  refine yX rfl rfl rfl rfl ?_
  try dsimp only [St.put]
  refine ab rfl (dg rfl ?_)
  try dsimp only [St.put]
  refine ab rfl (cn rfl rfl rfl zG rfl rfl (by rfl) ?_)
  refine yN ?_
  dsimp only [St.put]
  refine K38 _ ?_
  refine fj (i := 18) rfl zG zC ?_
  dsimp only
  refine yR ?_
  refine yM rfl rfl ?_
  try dsimp only [St.put]
  refine ae rfl (bh rfl rfl rfl) ?_
  try dsimp only [St.put]
  refine ab rfl (cy rfl rfl rfl (by decide) (by decide) zR (by decide) ?_)
  try dsimp only [St.put]
  refine ab rfl (ucp (xs := ([] : List PlaceD) ++ done) [z] rfl rfl zG rfl rfl rfl rfl zA zA (fun v3 => ?_))
  refine yA rfl rfl ?_
  refine yN ?_
  dsimp only [St.put]
  simp only [List.append_assoc]
  exact ⟨(done ++ [z], wi + 1, v3, wv), ua8 hyk hyd, ⟨hIn z hyk, hIu z hyd⟩, ⟨⟨rfl, rfl⟩, zF, zB, zN, zX⟩⟩
 refine yR ?_
 refine yA rfl rfl ?_
 refine yN ?_
 dsimp only [St.put]
 refine K22 _ ?_
 refine o5 14 54 3 rfl (by decide) ?_
 dsimp only [List.set_cons_zero, List.set_cons_succ]
 refine yS fun _ K39 => ?_
 refine yS fun _ K40 => ?_
 refine yR ?_
 refine yF rfl rfl rfl rfl ?_
 refine yL rfl rfl rfl ?_
 refine aa rfl (cc rfl rfl (List.length_map _)) ?_
 refine yM rfl rfl ?_
 refine yN ?_
 dsimp only [St.put]
 refine K40 _ ?_
 refine cd ?_
 refine du 72 ?_
 refine zQ ?_
 refine fa (aj ((aj G nx (gp Tryd.prog 54 (x.found.length) ((f7 (fu x.found (x.well.take 0))))))) (nx + 1) (.tip 0 54 3)) zX ?_
 dsimp only
 refine et (X := Nat) (fun k => k ≤ x.well.length) (fun k => x.well.length - k) (fun k => [(14, .list ((k7 x.found x.well k).map cells) (.tip (nx + 1))), (16, .any), (71, .v (.int .i64 (k : Int)))]) (fun k G' => aj ((aj G nx (gp Tryd.prog 54 ((x.found.length + k)) ((f7 (fu x.found (x.well.take k))))))) (nx + 1) (.tip (k7 x.found x.well k).length 54 3)) 0 rfl ?_ ?_ ?_ ?_ ?_ ?_
 ·exact Nat.zero_le _
 ·exact zF
 ·exact zX
 ·rintro k hI
  exact (by (try dsimp only); repeat' (first | exact trivial | refine ⟨?_, ?_⟩ | exact .v | exact .any | refine .elem ?_ | exact bd _ _ | exact e8 _ _ | exact dz _ _ | exact fe _ (by (try dsimp only); omega) | exact .box (by (try dsimp only); omega) | exact em | exact cv | exact gn (lp _ _) | refine fg ?_ ?_ | exact .arr (by (try dsimp only); omega) | exact .own (by (try dsimp only); omega) | exact .map (by (try dsimp only); omega) | exact ec _ | refine bn ?_ ?_ | exact bd _ _))
 ·rintro k hI
  exact (by (repeat' (refine jt ?_ (by (try dsimp only); omega) ?_)); all_goals (first | exact ju zS | (repeat' (first | exact trivial | refine ⟨?_, ?_⟩ | exact .v | exact .any | refine .elem ?_ | exact bd _ _ | exact e8 _ _ | exact dz _ _ | exact fe _ (by (try dsimp only); omega) | exact .box (by (try dsimp only); omega) | exact em | exact cv | exact gn (lp _ _) | refine fg ?_ ?_ | exact .arr (by (try dsimp only); omega) | exact .own (by (try dsimp only); omega) | exact .map (by (try dsimp only); omega) | exact ec _ | refine bn ?_ ?_ | exact bd _ _))))
 rintro k hK
 dsimp only at hK ⊢
 refine yS fun _ K41 => ?_
 refine yR ?_
 refine aa rfl (dp rfl rfl rfl) ?_
 refine yN ?_
 dsimp only [St.put]
 refine K41 _ ?_
 refine yS fun _ K42 => ?_
 refine bc rfl (fun hc => ?_) (fun hc => ?_)
 ·replace hc := of_decide_eq_true hc
  obtain ⟨q, hq⟩ : ∃ q, x.well[k]? = some q := fl (by omega)
  have hbt := uc1 x.found x.well k
  refine bi ?_
  refine K42 _ ?_
  refine yS fun _ K43 => ?_
  refine cd ?_
  refine yS fun _ K44 => ?_
  refine yR ?_
  refine aa rfl (c5 rfl rfl rfl rfl (c7 (by assumption)) (Enc.len _)) ?_
  refine yE rfl rfl rfl ?_
  try dsimp only [St.put]
  refine ab rfl (dg rfl ?_)
  try dsimp only [St.put]
  refine ab rfl (cn rfl rfl rfl zG rfl rfl (by rfl) ?_)
  refine yN ?_
  dsimp only [St.put]
  refine K44 _ ?_
  refine fj (i := 16) rfl zG zC ?_
  dsimp only
  refine yS fun _ K45 => ?_
  refine yR ?_
  refine yM rfl rfl ?_
  refine yE rfl rfl rfl ?_
  try dsimp only [St.put]
  refine ae rfl (td q rfl rfl zG trivial rfl (uae _ _)) ?_
  refine yN ?_
  dsimp only [St.put]
  refine K45 _ ?_
  refine bc rfl (fun hc => ?_) (fun hc => ?_)
  ·have hin : q ∈ x.found := by
    rw [tm hnd2 hq] at hc
    exact of_decide_eq_true hc
   refine yS fun _ K46 => ?_
   refine yR ?_
   refine yM rfl rfl ?_
   refine yE rfl rfl rfl ?_
   try dsimp only [St.put]
   refine ab rfl (cy rfl rfl rfl (by decide) (by decide) zR (by decide) ?_)
   try dsimp only [St.put]
   refine ab rfl (j8 ([q]) rfl rfl zG zE rfl rfl zA ?_ zA)
   refine yA rfl rfl ?_
   refine yN ?_
   dsimp only [St.put]
   refine K46 _ ?_
   refine yR ?_
   refine yM rfl rfl ?_
   refine yE rfl rfl rfl ?_
   try dsimp only [St.put]
   refine ab rfl (ucm q rfl rfl zG rfl (uad hnd2 hq hin) ?_)
   refine yN ?_
   dsimp only [St.put]
   refine K43 _ ?_
   refine yR ?_
   refine aa rfl (ct rfl rfl rfl (by omega)) ?_
   refine yM rfl rfl ?_
   refine yN ?_
   dsimp only [St.put]
   have e := uc0 (F := x.found) hq
   first
   | (have hi : q ∈ x.found := hin
      rw [decide_eq_true hi, cond_true] at e
      simp only [← e]
      exact ⟨k + 1, by omega, by omega, ⟨⟨rfl, rfl⟩, zF, zB, zN, zX⟩⟩)
   | (have hi : q ∉ x.found := hout
      rw [decide_eq_false hi, cond_false, List.append_nil] at e
      simp only [← e]
      exact ⟨k + 1, by omega, by omega, ⟨⟨rfl, rfl⟩, zF, zB, zN, zX⟩⟩)
  have hout : q ∉ x.found := by
   rw [tm hnd2 hq] at hc
   exact of_decide_eq_false hc
  refine yR ?_
  refine yM rfl rfl ?_
  refine yE rfl rfl rfl ?_
  try dsimp only [St.put]
  refine ab rfl (se (q) rfl rfl rfl zG rfl (uac hnd2 hq hout) ?_)
  refine yN ?_
  dsimp only [St.put]
  refine K43 _ ?_
  refine yR ?_
  refine aa rfl (ct rfl rfl rfl (by omega)) ?_
  refine yM rfl rfl ?_
  refine yN ?_
  dsimp only [St.put]
  have e := uc0 (F := x.found) hq
  first
  | (have hi : q ∈ x.found := hin
     rw [decide_eq_true hi, cond_true] at e
     simp only [← e]
     exact ⟨k + 1, by omega, by omega, ⟨⟨rfl, rfl⟩, zF, zB, zN, zX⟩⟩)
  | (have hi : q ∉ x.found := hout
     rw [decide_eq_false hi, cond_false, List.append_nil] at e
     simp only [← e]
     exact ⟨k + 1, by omega, by omega, ⟨⟨rfl, rfl⟩, zF, zB, zN, zX⟩⟩)
 replace hc := of_decide_eq_false hc
 obtain rfl : k = x.well.length := by omega
 rw [ukl hp]
 refine el ?_
 refine K39 _ ?_
 refine yS fun _ K47 => ?_
 refine uu 14 (lst (dn p.text x)) rfl Wk.tok ?_
 refine yR ?_
 refine yM rfl rfl ?_
 try dsimp only [St.put]
 refine ab rfl (oy rfl rfl rfl (uj5 (dn p.text x) hB (by omega) _ _) ?_)
 refine yA rfl rfl ?_
 refine yN ?_
 dsimp only [St.put]
 refine K47 _ ?_
 refine yS fun _ K48 => ?_
 refine yS fun _ K49 => ?_
 refine yR ?_
 refine yM rfl rfl ?_
 try dsimp only [St.put]
 refine ab rfl (uci rfl rfl zG fun r β cl ks hnd hks0 hinj => ?_)
 refine yN ?_
 dsimp only [St.put]
 refine K49 _ ?_
 rw [hmw] at hks0
 rw [hmw]
 refine cd ?_
 refine du 91 ?_
 refine zQ ?_
 refine fa (aj (aj (aj (aj G nx (mq Tryd.prog 54 (x.found.length + x.well.length) (f7 (fu x.found x.well)) β cl)) (nx + 1 + 1) (.arr 0 0 54 3 (dn p.text x).length (cp (dn p.text x)))) (nx + 1 + 1 + 1) (.raw 0 (.mapIter (some r) cl (g8 β ([] : List PlaceD)) cl))) (nx + 1 + 1 + 1 + 1) (.fact (.map (some r)) (.map nx))) zX ?_
 dsimp only
 refine et (X := List PlaceD × Nat × Nat × Nat) (fun y => (∀ z ∈ y.1, z ∈ ks) ∧ y.1.Nodup) (fun y => rx ks y.1) (fun y => [(17, .own (nx + 1 + 1) y.2.2.1 (dn p.text x ++ y.1).length), (18, .any)]) (fun y G' => (aj (aj (aj (aj G nx (mq Tryd.prog 54 ((x.found.length + x.well.length)) (f7 ((fu x.found x.well))) β cl)) ((nx + 1 + 1)) (.arr y.2.2.1 y.2.2.2 54 3 ((dn p.text x ++ y.1)).length (cp ((dn p.text x ++ y.1))))) ((nx + 1 + 1 + 1)) (.raw y.2.1 (.mapIter (some r) cl (g8 β y.1) cl))) ((nx + 1 + 1 + 1 + 1)) (.fact (.map (some r)) (.map nx)))) ([], 0, 0, 0) rfl ?_ ?_ ?_ ?_ ?_ ?_
 ·exact ⟨fun z hz => by simp at hz, List.nodup_nil⟩
 ·simp only [List.append_nil]
  exact zF
 ·simp only [List.append_nil]
  exact zX
 ·rintro ⟨done, wi, vl, wv⟩ hI
  exact (by (try dsimp only); repeat' (first | exact trivial | refine ⟨?_, ?_⟩ | exact .v | exact .any | refine .elem ?_ | exact bd _ _ | exact e8 _ _ | exact dz _ _ | exact fe _ (by (try dsimp only); omega) | exact .box (by (try dsimp only); omega) | exact em | exact cv | exact ug (lp _ _) | exact ec _ | refine fg ?_ ?_ | exact .arr (by (try dsimp only); omega) | exact .own (by (try dsimp only); omega) | exact .map (by (try dsimp only); omega) | exact ec _ | refine bn ?_ ?_ | exact bd _ _))
 ·rintro ⟨done, wi, vl, wv⟩ hI
  exact (by (repeat' (refine jt ?_ (by (try dsimp only); omega) ?_)); all_goals (first | exact ju zS | (repeat' (first | exact trivial | refine ⟨?_, ?_⟩ | exact .v | exact .any | refine .elem ?_ | exact bd _ _ | exact e8 _ _ | exact dz _ _ | exact fe _ (by (try dsimp only); omega) | exact .box (by (try dsimp only); omega) | exact em | exact cv | exact ug (lp _ _) | exact ec _ | refine fg ?_ ?_ | exact .arr (by (try dsimp only); omega) | exact .own (by (try dsimp only); omega) | exact .map (by (try dsimp only); omega) | exact ec _ | refine bn ?_ ?_ | exact bd _ _))))
 rintro ⟨done, wi, vl, wv⟩ hI8
 dsimp only at hI8 ⊢
 refine yS fun _ K50 => ?_
 refine yR ?_
 try dsimp only [St.put]
 refine ab rfl (ucj (done := done) rfl rfl zG zG zG (hks0) (hinj) (hI8.1) (fun hend => ?_) (fun y c hym hyk hyd => ?_))
 ·have hdl := tj hp hI8.2 (fun q hq => onceM_ne.1 ((hks0 q).2 (hI8.1 q hq)))
  have hdk : ∀ q, q ∈ done ↔ fu x.found x.well q = true := fun q => ⟨fun hq => onceM_ne.1 ((hks0 q).2 (hI8.1 q hq)), fun hq => hend q ((hks0 q).1 (onceM_ne.2 hq))⟩
  have hpb := uab hp ht (fun q hq => (hdk q).1 hq)
  refine yX rfl rfl rfl rfl ?_
  refine yN ?_
  dsimp only [St.put]
  refine K50 _ ?_
  refine yS fun _ K51 => ?_
  refine bc rfl (fun h => by cases h) (fun _ => ?_)
  refine el ?_
  refine K48 _ ?_
  refine yS fun _ K52 => ?_
  have hpb2 : ∀ y ∈ dn p.text x ++ done, PBd9 y := fun y hy => by
   rcases List.mem_append.1 hy with hy | hy
   ·exact ukm hp ht hy
   exact hpb y hy
  refine yR ?_
  refine yM rfl rfl ?_
  try dsimp only [St.put]
  refine ab rfl (uch yu PBd9 kb rfl rfl rfl rfl zG rfl rfl rfl (fun y hy => hy.plain) hpb2 (by first | (rw [List.length_append]; omega) | (simp only [List.nil_append]; omega)) (fun a b _ _ => wc a b _ _) z8 (fun ys hperm hsort => ?_))
  refine yN ?_
  dsimp only [St.put]
  have hlen := hperm.length_eq
  obtain rfl := udo hp hI8.2 hdk hperm hsort
  refine K52 _ ?_
  refine udi 17 (ed p.text x) rfl zG rfl rfl hlen.symm ?_
  dsimp only
  refine udg [(0, none), (1, none), (2, none), (3, none), (4, none), (5, none), (6, none), (7, none), (10, none), (11, none), (12, none), (13, none), (14, none), (17, none), (18, none), (19, none), (20, none), (21, none)] (fun i => [23, 26, 29, 32].contains i) (fun i => [0, 1, 2, 3, 4, 5, 7, 10, 11, 12, 14, 17, 18, 19, 21].contains i) 15 (rl [8, 2, 5, 2, 5, 11]) [nB] (by kernel_rfl) (by kernel_rfl) ?_
  refine xM rfl rfl rfl rfl rfl ?_
  refine xM rfl rfl rfl rfl rfl ?_
  refine xM rfl rfl rfl rfl rfl ?_
  refine xM rfl rfl rfl rfl rfl ?_
  refine ai rfl rfl rfl rfl (jp rfl rfl) ?_
  refine ai rfl rfl rfl rfl (cm rfl rfl) ?_
  try dsimp only [St.put]
  refine ak rfl rfl rfl rfl (ci rfl rfl zG (by simp) (by first | rfl | assumption)) ?_
  refine xM rfl rfl rfl rfl rfl ?_
  refine xM rfl rfl rfl rfl rfl ?_
  refine ai rfl rfl rfl rfl (jp rfl rfl) ?_
  refine ai rfl rfl rfl rfl (cm rfl rfl) ?_
  try dsimp only [St.put]
  refine ak rfl rfl rfl rfl (ci rfl rfl zG (by simp) (by first | rfl | assumption)) ?_
  refine xM rfl rfl rfl rfl rfl ?_
  refine xM rfl rfl rfl rfl rfl ?_
  refine ai rfl rfl rfl rfl (jp rfl rfl) ?_
  refine ai rfl rfl rfl rfl (cm rfl rfl) ?_
  try dsimp only [St.put]
  refine ak rfl rfl rfl rfl (ci rfl rfl zG (by simp) (by first | rfl | assumption)) ?_
  refine xM rfl rfl rfl rfl rfl ?_
  refine fm ⟨zD, ?_⟩
  dsimp only [St.put]
  refine udt ws al bo (fb p.text x : Int) (ed p.text x) (dn p.text x) nB a1 a2 a3 _ rfl (by kernel_rfl) (by kernel_rfl) (by kernel_rfl) rfl rfl rfl rfl rfl rfl rfl rfl rfl rfl rfl rfl rfl zG zG zG zG d1 d2 d3 d4 d5 d6 hw ha hb ?_
  dsimp only
  refine qo [(24, none), (25, none)] 7 (rl [26, 7]) (by kernel_rfl) ?_
  refine ai rfl rfl rfl rfl (jp rfl rfl) ?_
  refine ai rfl rfl rfl rfl (cm rfl rfl) ?_
  refine fm ⟨zD, ?_⟩
  refine o9 [26] (by kernel_rfl) (by simp) ?_
  refine qm ?_ ?_
  ·try dsimp only [St.put]
   refine qj rfl rfl rfl rfl (gi rfl rfl rfl zG (by constructor) rfl zO ?_)
   refine qo [(27, none), (28, none)] 4 (rl [29, 4]) (by kernel_rfl) ?_
   refine ai rfl rfl rfl rfl (jp rfl rfl) ?_
   refine ai rfl rfl rfl rfl (cm rfl rfl) ?_
   refine fm ⟨zD, ?_⟩
   refine o9 [29] (by kernel_rfl) (by simp) ?_
   refine qm ?_ ?_
   ·try dsimp only [St.put]
    refine qj rfl rfl rfl rfl (gi rfl rfl rfl zG (by constructor) rfl zO ?_)
    refine qo [(30, none), (31, none)] 1 (rl [32, 1]) (by kernel_rfl) ?_
    refine ai rfl rfl rfl rfl (jp rfl rfl) ?_
    refine ai rfl rfl rfl rfl (cm rfl rfl) ?_
    refine fm ⟨zD, ?_⟩
    refine o9 [32] (by kernel_rfl) (by simp) ?_
    refine qm ?_ ?_
    ·try dsimp only [St.put]
     refine qj rfl rfl rfl rfl (gi rfl rfl rfl zG (by constructor) rfl zO ?_)
     dsimp only [St.put]
     refine udu (by kernel_rfl) ?_
     refine uca rfl (.inl rfl) zN (yo zG zG zG zG fun n o q1 q2 q3 q4 h => ?_)
     have hn := hlt n o h
     (try dsimp only)
     repeat (first | exact h | rw [gt (by omega)] | rw [kg (by omega)])
    exact ql
   exact ql
  exact ql
 have hz0 := wl hym
 subst hz0
 obtain ⟨z, hz⟩ : ∃ z, z = y := ⟨_, rfl⟩
 subst hz
 have hIn : ∀ z ∈ ks, ∀ x ∈ done ++ [z], x ∈ ks := fun z hz x hx => by
  rcases List.mem_append.1 hx with hx | hx
  ·exact hI8.1 x hx
  rw [List.mem_singleton] at hx; exact hx ▸ hz
 have hIu : ∀ z, z ∉ done → (done ++ [z]).Nodup := fun z hz => List.nodup_append.2 ⟨hI8.2, by simp, fun a ha b hb => by
  rw [List.mem_singleton] at hb; subst hb; exact fun e => hz (e ▸ ha)⟩
 have hdl := tj hp hI8.2 (fun q hq => onceM_ne.1 ((hks0 q).2 (hI8.1 q hq)))
 refine yX rfl rfl rfl rfl ?_
 refine yN ?_
 dsimp only [St.put]
 refine K50 _ ?_
 refine yS fun _ K53 => ?_
 refine bc rfl (fun _ => ?_) (fun h => by cases h)
 refine bi ?_
 refine K53 _ ?_
 refine cd ?_
 refine yS fun _ K54 => ?_
 refine yR ?_
 try dsimp only [St.put]
 refine ae rfl (y5 (fx := nx + 1 + 1 + 1 + 1) (n := nx) rfl rfl zG trivial zG zG trivial (by assumption)) ?_
 refine yX rfl rfl rfl rfl ?_
 try dsimp only [St.put]
 refine ab rfl (dg rfl ?_)
 try dsimp only [St.put]
 refine ab rfl (cn rfl rfl rfl zG rfl rfl (by rfl) ?_)
 refine yN ?_
 dsimp only [St.put]
 refine K54 _ ?_
 refine fj (i := 18) rfl zG zC ?_
 dsimp only
 refine yR ?_
 refine yM rfl rfl ?_
 try dsimp only [St.put]
 refine ae rfl (bh rfl rfl rfl) ?_
 try dsimp only [St.put]
 refine ab rfl (cy rfl rfl rfl (by decide) (by decide) zR (by decide) ?_)
 try dsimp only [St.put]
 refine ab rfl (ucp (xs := dn p.text x ++ done) [z] rfl rfl zG rfl rfl rfl rfl zA zA (fun v3 => ?_))
 refine yA rfl rfl ?_
 refine yN ?_
 dsimp only [St.put]
 simp only [List.append_assoc]
 exact ⟨(done ++ [z], wi + 1, v3, wv), ua8 hyk hyd, ⟨hIn z hyk, hIu z hyd⟩, ⟨⟨rfl, rfl⟩, zF, zB, zN, zX⟩⟩
end Go.Proofs.YtgffhbbcpgdjjaaDoor
namespace Go.AB
open Go Go.RowKit
open Go.AB.Enc (cells)
open Go.PB (aq ah PlaceD av ax aw bg am af cb ba cr c4)
end Go.AB
namespace Go.Proofs.YtgffhbbcpgdjjaaDoor
set_option maxRecDepth 10000
open Go Go.RowKit Go.AB
open Go.AB.Enc (cells)
open Go.PB (aq ah PlaceD av ax aw bg am af cb ba cr c4)
theorem uj7 (l : List Int) (he : l = []) : Pure Tryd.prog 80 [lst l] (lst l) := by
 subst he
 refine dr Tryd.func80 rfl (fun m => (bd _ _)) fun G nx => ?_
 simp only [Tryd.ntmps80, List.length_cons, List.length_nil, Nat.reduceAdd, Nat.reduceSub]
 refine bv fun hlt => ?_
 dsimp only at hlt
 refine yS fun _ K1 => ?_
 refine yR ?_
 refine yA rfl rfl ?_
 refine yN ?_
 dsimp only [St.put]
 refine K1 _ ?_
 refine yS fun _ K2 => ?_
 refine yS fun _ K3 => ?_
 refine yR ?_
 refine yM rfl rfl ?_
 refine ab rfl (ucl rfl rfl fun b _ => ?_)
 refine yN ?_
 dsimp only [St.put]
 refine K3 _ ?_
 refine bc rfl (fun hc => ?_) (fun hc => ?_)
 ·try replace hc := of_decide_eq_true hc
  refine yS fun _ K4 => ?_
  refine yR ?_
  refine yA rfl rfl ?_
  refine yN ?_
  dsimp only [St.put]
  refine K4 _ ?_
  refine ay ?_
  refine ox rfl (eb (by constructor)) zN zS ?_
  exact zW
 try replace hc := of_decide_eq_false hc
 refine bi ?_
 refine K2 _ ?_
 refine yS fun _ K5 => ?_
 refine yR ?_
 try dsimp only [St.put]
 refine ab rfl (un rfl ?_)
 refine yM rfl rfl ?_
 try dsimp only [St.put]
 refine ab rfl (xr rfl rfl (.inl rfl) rfl (show 1 ≤ 1 by decide) (fun r hr => by cases hr) (by simp) (by simp) ?_)
 refine yA rfl rfl ?_
 refine yN ?_
 dsimp only [St.put]
 refine K5 _ ?_
 refine ay ?_
 refine ox rfl (eb (by constructor)) zN zS ?_
 exact zW
theorem xw (l : List Int) (hne : l ≠ []) (hl : l.length ≤ 1000) (G : Nat → Option GObj) (nx : Nat) : PC Tryd.prog 80 [lst l] G nx fun r G' nx' => r = .own nx 0 l.length ∧ G' = aj G nx (.arr 0 0 3 1 l.length (cp l)) ∧ nx' = nx + 1 := by
 refine gk (aj G nx (.arr 0 0 3 1 l.length (cp l))) (nx + 1) Tryd.func80 rfl (.own (Nat.lt_succ_self _)) zN (fun hlt => (by (repeat' (refine jt ?_ (by (try dsimp only); omega) ?_)); all_goals (first | exact ju zS | (repeat' (first | exact trivial | refine ⟨?_, ?_⟩ | exact .v | exact .any | refine .elem ?_ | exact bd _ _ | exact e8 _ _ | exact dz _ _ | exact fe _ (by (try dsimp only); omega) | exact .box (by (try dsimp only); omega) | exact em | exact cv | exact ec _ | refine fg ?_ ?_ | exact .arr (by (try dsimp only); omega) | exact .own (by (try dsimp only); omega) | exact .map (by (try dsimp only); omega) | exact ec _ | refine bn ?_ ?_ | exact bd _ _))))) ?_
 simp only [Tryd.ntmps80, List.length_cons, List.length_nil, Nat.reduceAdd, Nat.reduceSub]
 refine bv fun hlt => ?_
 dsimp only at hlt
 refine yS fun _ K1 => ?_
 refine yR ?_
 refine yA rfl rfl ?_
 refine yN ?_
 dsimp only [St.put]
 refine K1 _ ?_
 refine yS fun _ K2 => ?_
 refine yS fun _ K3 => ?_
 refine yR ?_
 refine yM rfl rfl ?_
 refine ab rfl (uck (fun e => hne (by simpa using e)) rfl rfl ?_)
 refine yN ?_
 dsimp only [St.put]
 refine K3 _ ?_
 refine bc rfl (fun hc => ?_) (fun hc => ?_)
 ·try replace hc := of_decide_eq_true hc
  refine yS fun _ K4 => ?_
  refine yR ?_
  refine yA rfl rfl ?_
  refine yN ?_
  dsimp only [St.put]
  refine K4 _ ?_
  refine ay ?_
  exact absurd hc (by decide)
 try replace hc := of_decide_eq_false hc
 refine bi ?_
 refine K2 _ ?_
 refine yS fun _ K5 => ?_
 refine yR ?_
 try dsimp only [St.put]
 refine ab rfl (un rfl ?_)
 refine yM rfl rfl ?_
 try dsimp only [St.put]
 refine ab rfl (ucq l rfl rfl (.inl rfl) rfl rfl hne (by decide) (by omega) (by omega) ?_)
 refine yA rfl rfl ?_
 refine yN ?_
 dsimp only [St.put]
 refine K5 _ ?_
 refine ay ?_
 refine cg rfl (by constructor) zN zS ?_
 rfl
set_option maxHeartbeats 1000000 in
theorem ugy (p : af) (R C : Nat → Int) (j : Nat) (x : am) (n : Int) (h : fk p) (h0 : 0 < bu p) (hx : p.pages[j]? = some x) (hn : -1000000 ≤ n ∧ n ≤ 1000000) (hR : ∀ i, -1000000 ≤ R i ∧ R i ≤ 1000000) : Pure Tryd.prog 51 [val (fq p R C), .v (.int .i64 (j : Int)), .v (.int .i64 n)] (val (fq p ((bk p).lessR R j n) (d9 C j))) := by
 refine dr Tryd.func51 rfl (fun m => (dz _ _)) fun G nx => ?_
 simp only [Tryd.ntmps51, List.length_cons, List.length_nil, Nat.reduceAdd, Nat.reduceSub]
 refine bv fun hlt => ?_
 dsimp only at hlt
 have hjl := (List.getElem?_eq_some_iff.1 hx).1
 have hrx := tg hx
 have hn1 := h.nf
 have hn2 := h.ns
 have hnp := h.np
 have hnr : bu p = p.firsts.length + p.seconds.length := rfl
 have hrl := v8 p x
 have hl1 := iz (bu p) R
 have hl2 := iz p.pages.length C
 have hne2 : ce p.pages.length C ≠ [] := fun e => by rw [e] at hl2; simp at hl2; omega
 have hne1 : ce (bu p) R ≠ [] := fun e => by rw [e] at hl1; simp at hl1; omega
 refine yS fun _ K1 => ?_
 refine yR ?_
 try dsimp only [St.put]
 refine ab rfl (xq rfl rfl ?_)
 try dsimp only [St.put]
 refine ab rfl (dg rfl ?_)
 refine yN ?_
 dsimp only [St.put]
 refine K1 _ ?_
 refine yS fun _ K2 => ?_
 refine ia [(0, none), (1, none), (3, none), (4, none), (2, none), (6, none), (5, none), (7, none), (8, none), (9, none)] (fun i => [5, 7, 9].contains i) (fun i => [2, 5, 7, 9].contains i) (fun i => [0, 3, 6, 8].contains i) [nx] (by kernel_rfl) (by kernel_rfl) ?_
 refine ai rfl rfl rfl rfl (cm rfl rfl) ?_
 try dsimp only [St.put]
 refine ak rfl rfl rfl rfl (ci rfl rfl zG (by simp) (by first | rfl | assumption)) ?_
 refine ai rfl rfl rfl rfl (cm rfl rfl) ?_
 try dsimp only [St.put]
 refine ak rfl rfl rfl rfl (ci rfl rfl zG (by simp) (by first | rfl | assumption)) ?_
 refine jb ?_
 try dsimp only [St.put]
 refine ki rfl rfl rfl (oy rfl rfl rfl (xw (ce (bu p) R) hne1 (by omega) _ _) ⟨zD, ?_⟩)
 refine ef rfl rfl rfl rfl (cm rfl rfl) ?_
 try dsimp only [St.put]
 refine gz rfl rfl rfl rfl (oy rfl rfl rfl (xw (ce p.pages.length C) hne2 (by omega) _ _) ?_)
 try dsimp only [St.put]
 refine gz rfl rfl rfl rfl (gi rfl rfl rfl zG (by constructor) rfl zO ?_)
 refine ef rfl rfl rfl rfl (cm rfl rfl) ?_
 try dsimp only [St.put]
 refine gz rfl rfl rfl rfl (gi rfl rfl rfl zG (by constructor) rfl (by show 1 < 3; decide) ?_)
 refine ja ?_
 dsimp only [St.put]
 simp only [hl1, hl2]
 refine K2 _ ?_
 refine yS fun _ K3 => ?_
 refine yS fun _ K4 => ?_
 refine yR ?_
 refine aa rfl (cm rfl rfl) ?_
 try dsimp only [St.put]
 refine ae rfl (ci rfl rfl zG trivial (by first | rfl | assumption)) ?_
 refine yM rfl rfl ?_
 refine aa rfl (c5 rfl rfl rfl rfl (c7 (by assumption)) (Enc.len _)) ?_
 refine yL rfl rfl rfl ?_
 refine aa rfl (cc rfl rfl (List.length_map _)) ?_
 refine yM rfl rfl ?_
 refine yN ?_
 dsimp only [St.put]
 refine K4 _ ?_
 refine cd ?_
 refine du 24 ?_
 refine zQ ?_
 refine fa ((aj (aj (aj (aj G nx (.box 2 [.own (nx + 1 + 1) 0 (bu p), .own (nx + 1 + 1 + 1) 0 p.pages.length, lst (p.pages.map (dd p))])) (nx + 1) (.box 0 [.list [] .nil, .list [] .nil, .list [] .nil])) (nx + 1 + 1) (.arr 0 0 3 1 (bu p) (cp (ce (bu p) (R))))) (nx + 1 + 1 + 1) (.arr 0 0 3 1 p.pages.length (cp (ce p.pages.length C))))) zX ?_
 dsimp only
 refine et (X := Nat) (fun k => k ≤ (dd p x).length ∧ ∀ i, -1000000 - k * 1000000 ≤ j0 R n ((dd p x).take k) i ∧ j0 R n ((dd p x).take k) i ≤ 1000000 + k * 1000000) (fun k => (dd p x).length - k) (fun k => [(8, .any), (23, .v (.int .i64 (k : Int)))]) (fun k G' => (aj (aj (aj (aj G nx (.box 2 [.own (nx + 1 + 1) 0 (bu p), .own (nx + 1 + 1 + 1) 0 p.pages.length, lst (p.pages.map (dd p))])) (nx + 1) (.box 0 [.list [] .nil, .list [] .nil, .list [] .nil])) (nx + 1 + 1) (.arr 0 k 3 1 (bu p) (cp (ce (bu p) ((j0 R n ((dd p x).take k))))))) (nx + 1 + 1 + 1) (.arr 0 0 3 1 p.pages.length (cp (ce p.pages.length C))))) 0 rfl ?_ ?_ ?_ ?_ ?_ ?_
 ·exact ⟨Nat.zero_le _, fun i => by have := hR i; simp only [List.take_zero, ue5]; omega⟩
 ·exact zF
 ·exact zX
 ·rintro k hI
  exact zL
 ·rintro k hI
  exact zH
 rintro k hI
 dsimp only at hI ⊢
 refine yS fun _ K5 => ?_
 refine yR ?_
 refine aa rfl (dp rfl rfl rfl) ?_
 refine yN ?_
 dsimp only [St.put]
 refine K5 _ ?_
 refine yS fun _ K6 => ?_
 refine bc rfl (fun hc => ?_) (fun hc => ?_)
 ·replace hc := of_decide_eq_true hc
  obtain ⟨zn, hz, hz6⟩ := v7 h hx (k := k) (by omega)
  have hst := ue4 (R := R) (n := n) hz
  rw [Int.toNat_natCast] at hst
  have hI2 : ∀ i, -1000000 - ((k + 1 : Nat) : Int) * 1000000 ≤ j0 R n ((dd p x).take (k + 1)) i ∧ j0 R n ((dd p x).take (k + 1)) i ≤ 1000000 + ((k + 1 : Nat) : Int) * 1000000 := fun i => by
   rw [hst]
   have h1 := hI.2 i
   have h2 := hI.2 zn
   dsimp only
   cases decide (i = zn)
   ·rw [cond_false]
    omega
   rw [cond_true]
   omega
  have hI3 := hI.2 zn
  obtain ⟨S, hS⟩ : ∃ S, j0 R n ((dd p x).take k) = S := ⟨_, rfl⟩
  rw [hS] at hst hI3 ⊢
  have hset := vo S (S zn - n) hz6
  rw [← hst] at hset
  refine bi ?_
  refine K6 _ ?_
  refine yS fun _ K7 => ?_
  refine cd ?_
  refine yS fun _ K8 => ?_
  refine yR ?_
  refine aa rfl (c5 rfl rfl rfl rfl (c7 (by assumption)) (Enc.len _)) ?_
  refine yL rfl rfl rfl ?_
  refine yA rfl rfl ?_
  refine yN ?_
  dsimp only [St.put]
  refine K8 _ ?_
  refine yR ?_
  refine aa rfl (cm rfl rfl) ?_
  try dsimp only [St.put]
  refine ae rfl (ci rfl rfl zG trivial (by first | rfl | assumption)) ?_
  refine yM rfl rfl ?_
  try dsimp only [St.put]
  refine aa rfl (pp rfl rfl zG rfl rfl hz6) ?_
  try dsimp only [St.put]
  refine ae rfl (bp rfl rfl zG (by simp) (ujc (by rw [Nat.mul_one]; exact lh S hz6))) ?_
  refine yM rfl rfl ?_
  refine aa rfl (je rfl rfl rfl (by omega)) ?_
  try dsimp only [St.put]
  refine aa rfl (pp rfl rfl zG rfl rfl hz6) ?_
  try dsimp only [St.put]
  refine ab rfl (sd (k := zn) (j := 0) (z := S zn) (z' := S zn - n) rfl rfl rfl zG rfl rfl (lh S hz6) rfl (by decide) rfl ?_)
  refine yN ?_
  dsimp only [St.put]
  refine K7 _ ?_
  refine yR ?_
  refine aa rfl (ct rfl rfl rfl (by omega)) ?_
  refine yM rfl rfl ?_
  refine yN ?_
  dsimp only [St.put]
  rw [hset]
  exact ⟨k + 1, by omega, ⟨by omega, hI2⟩, ⟨⟨rfl, rfl⟩, zF, zB, zN, zX⟩⟩
 replace hc := of_decide_eq_false hc
 rw [iy (show (dd p x).length ≤ k by omega), ← uii h hx]
 refine el ?_
 refine K3 _ ?_
 refine yS fun _ K9 => ?_
 refine yR ?_
 refine aa rfl (cm rfl rfl) ?_
 try dsimp only [St.put]
 refine ae rfl (ci rfl rfl zG trivial (by first | rfl | assumption)) ?_
 refine yM rfl rfl ?_
 try dsimp only [St.put]
 refine aa rfl (pp rfl rfl zG rfl rfl hjl) ?_
 try dsimp only [St.put]
 refine ab rfl (sd (k := j) (j := 0) (z := C j) (z' := 0) rfl rfl rfl zG rfl rfl (lh C hjl) rfl (by decide) rfl ?_)
 refine yN ?_
 dsimp only [St.put]
 rw [show (ce p.pages.length C).set j 0 = ce p.pages.length (d9 C j) from vo C 0 hjl]
 refine K9 _ ?_
 refine yS fun _ K10 => ?_
 refine o4 nx 0 (ce (bu p) ((bk p).lessR R j n)) zG rfl zG (by omega) rfl rfl (iz _ _).symm ?_
 refine o4 nx 1 (ce p.pages.length (d9 C j)) zG rfl zG (by omega) rfl rfl (iz _ _).symm ?_
 dsimp only [List.set_cons_zero, List.set_cons_succ]
 refine yR ?_
 try dsimp only [St.put]
 refine ae rfl (dc rfl rfl zG trivial (by rfl)) ?_
 try dsimp only [St.put]
 refine ab rfl (cn rfl rfl rfl zG rfl rfl (by rfl) ?_)
 refine yN ?_
 dsimp only [St.put]
 refine K10 _ ?_
 refine ay ?_
 refine ox rfl (i6 rfl zG (by rfl) zC rfl) zN zS ?_
 exact zW
set_option maxHeartbeats 1000000 in
theorem ugz (p : af) (R C : Nat → Int) (j : Nat) (x : am) (n : Int) (h : fk p) (h0 : bu p = 0) (hx : p.pages[j]? = some x) (hn : -1000000 ≤ n ∧ n ≤ 1000000) (hR : ∀ i, -1000000 ≤ R i ∧ R i ≤ 1000000) : Pure Tryd.prog 51 [val (fq p R C), .v (.int .i64 (j : Int)), .v (.int .i64 n)] (val (fq p ((bk p).lessR R j n) (d9 C j))) := by
 refine dr Tryd.func51 rfl (fun m => (dz _ _)) fun G nx => ?_
 simp only [Tryd.ntmps51, List.length_cons, List.length_nil, Nat.reduceAdd, Nat.reduceSub]
 refine bv fun hlt => ?_
 dsimp only at hlt
 have hjl := (List.getElem?_eq_some_iff.1 hx).1
 have hrx := tg hx
 have hn1 := h.nf
 have hn2 := h.ns
 have hnp := h.np
 have hnr : bu p = p.firsts.length + p.seconds.length := rfl
 have hrl := v8 p x
 have hl1 := iz (bu p) R
 have hl2 := iz p.pages.length C
 have hne2 : ce p.pages.length C ≠ [] := fun e => by rw [e] at hl2; simp at hl2; omega
 have he1 : ce (bu p) R = [] := by rw [h0]; rfl
 refine yS fun _ K1 => ?_
 refine yR ?_
 try dsimp only [St.put]
 refine ab rfl (xq rfl rfl ?_)
 try dsimp only [St.put]
 refine ab rfl (dg rfl ?_)
 refine yN ?_
 dsimp only [St.put]
 refine K1 _ ?_
 refine yS fun _ K2 => ?_
 refine ia [(0, none), (1, none), (3, none), (4, none), (2, none), (6, none), (5, none), (7, none), (8, none), (9, none)] (fun i => [5, 7, 9].contains i) (fun i => [2, 5, 7, 9].contains i) (fun i => [0, 3, 6, 8].contains i) [nx] (by kernel_rfl) (by kernel_rfl) ?_
 refine ai rfl rfl rfl rfl (cm rfl rfl) ?_
 try dsimp only [St.put]
 refine ak rfl rfl rfl rfl (ci rfl rfl zG (by simp) (by first | rfl | assumption)) ?_
 refine ai rfl rfl rfl rfl (cm rfl rfl) ?_
 try dsimp only [St.put]
 refine ak rfl rfl rfl rfl (ci rfl rfl zG (by simp) (by first | rfl | assumption)) ?_
 refine jb ?_
 try dsimp only [St.put]
 refine ki rfl rfl rfl (az rfl rfl rfl (uj7 (ce (bu p) R) he1) ⟨zD, ?_⟩)
 refine ef rfl rfl rfl rfl (cm rfl rfl) ?_
 try dsimp only [St.put]
 refine gz rfl rfl rfl rfl (oy rfl rfl rfl (xw (ce p.pages.length C) hne2 (by omega) _ _) ?_)
 try dsimp only [St.put]
 refine gz rfl rfl rfl rfl (gi rfl rfl rfl zG (by constructor) rfl zO ?_)
 refine ef rfl rfl rfl rfl (cm rfl rfl) ?_
 try dsimp only [St.put]
 refine gz rfl rfl rfl rfl (gi rfl rfl rfl zG (by constructor) rfl (by show 1 < 3; decide) ?_)
 refine ja ?_
 dsimp only [St.put]
 simp only [hl1, hl2]
 refine K2 _ ?_
 refine yS fun _ K3 => ?_
 refine yS fun _ K4 => ?_
 refine yR ?_
 refine aa rfl (cm rfl rfl) ?_
 try dsimp only [St.put]
 refine ae rfl (ci rfl rfl zG trivial (by first | rfl | assumption)) ?_
 refine yM rfl rfl ?_
 refine aa rfl (c5 rfl rfl rfl rfl (c7 (by assumption)) (Enc.len _)) ?_
 refine yL rfl rfl rfl ?_
 refine aa rfl (cc rfl rfl (List.length_map _)) ?_
 refine yM rfl rfl ?_
 refine yN ?_
 dsimp only [St.put]
 refine K4 _ ?_
 refine cd ?_
 refine du 24 ?_
 refine zQ ?_
 refine et (X := Nat) (fun k => k ≤ (dd p x).length) (fun k => (dd p x).length - k) (fun k => [(8, .any), (23, .v (.int .i64 (k : Int)))]) (fun k G' => G') 0 rfl ?_ ?_ (fun _ _ h => h) ?_ ?_ ?_
 ·exact Nat.zero_le _
 ·exact zF
 ·rintro k hI
  exact zL
 ·exact fun _ _ _ _ h => .inl h
 rintro k hI
 dsimp only at hI ⊢
 refine yS fun _ K5 => ?_
 refine yR ?_
 refine aa rfl (dp rfl rfl rfl) ?_
 refine yN ?_
 dsimp only [St.put]
 refine K5 _ ?_
 refine yS fun _ K6 => ?_
 refine bc rfl (fun hc => ?_) (fun hc => ?_)
 ·replace hc := of_decide_eq_true hc
  obtain ⟨zn, hz, hz6⟩ := v7 h hx (k := k) (by omega)
  omega
 replace hc := of_decide_eq_false hc
 refine el ?_
 refine K3 _ ?_
 refine yS fun _ K7 => ?_
 refine yR ?_
 refine aa rfl (cm rfl rfl) ?_
 try dsimp only [St.put]
 refine ae rfl (ci rfl rfl zG trivial (by first | rfl | assumption)) ?_
 refine yM rfl rfl ?_
 try dsimp only [St.put]
 refine aa rfl (pp rfl rfl zG rfl rfl hjl) ?_
 try dsimp only [St.put]
 refine ab rfl (sd (k := j) (j := 0) (z := C j) (z' := 0) rfl rfl rfl zG rfl rfl (lh C hjl) rfl (by decide) rfl ?_)
 refine yN ?_
 dsimp only [St.put]
 rw [show (ce p.pages.length C).set j 0 = ce p.pages.length (d9 C j) from vo C 0 hjl]
 refine K7 _ ?_
 refine yS fun _ K8 => ?_
 refine o4 nx 1 (ce p.pages.length (d9 C j)) zG rfl zG (by omega) rfl rfl (iz _ _).symm ?_
 dsimp only [List.set_cons_zero, List.set_cons_succ]
 rw [show ce (bu p) R = ce (bu p) ((bk p).lessR R j n) by rw [h0]; rfl]
 refine yR ?_
 try dsimp only [St.put]
 refine ae rfl (dc rfl rfl zG trivial (by rfl)) ?_
 try dsimp only [St.put]
 refine ab rfl (cn rfl rfl rfl zG rfl rfl (by rfl) ?_)
 refine yN ?_
 dsimp only [St.put]
 refine K8 _ ?_
 refine ay ?_
 refine ox rfl (i6 rfl zG (by rfl) zC rfl) zN zS ?_
 exact zW
theorem wb (p : af) (R C : Nat → Int) (j : Nat) (x : am) (n : Int) (h : fk p) (hx : p.pages[j]? = some x) (hn : -1000000 ≤ n ∧ n ≤ 1000000) (hR : ∀ i, -1000000 ≤ R i ∧ R i ≤ 1000000) : Pure Tryd.prog 51 [val (fq p R C), .v (.int .i64 (j : Int)), .v (.int .i64 n)] (val (fq p ((bk p).lessR R j n) (d9 C j))) := by
 by_cases h0 : bu p = 0
 ·exact ugz p R C j x n h h0 hx hn hR
 exact ugy p R C j x n h (by omega) hx hn hR
end Go.Proofs.YtgffhbbcpgdjjaaDoor
namespace Go.AB
open Go Go.RowKit
open Go.AB.Enc (cells)
def PureS (n : Nat) (F : GObj) (P : Program) (f : FuncId) (args : List C) (r : C) : Prop := ∀ G nx, G n = some F → n < nx → PC P f args G nx fun r' G' nx' => r' = r ∧ G' = G ∧ nx' = nx
theorem cx {n : Nat} {F : GObj} {P : Program} {o : Oper} {st : St} {f : FuncId} [Fun P f] {fv : Operand} {args : List Operand} {ats : Array TypeId} {caps al : List C} {K : St → Prop} {r : C} (ho : o.op = .call { callee := .value fv, args := args.toArray, argTypes := ats }) (hf : evC st fv = .fn (.func f) caps) (has : args.map (evC st) ++ caps = al)
  (hp : PureS n F P f al r) (hG : st.G n = some F) (hn : n < st.nx) (h : K (st.put o.dst r)) : EStep P o st K := ujv ho hf has (hp _ _ hG hn) h
theorem uat {P : Program} {o : Oper} {st : St} {t : TypeId} {x i : Operand} {m j : Nat} {v : Value} {cs : List C} {d : C} {ds : List C} {e : TypeId} {ik : IntKind} {n : Int} {k sz : Nat} {ag : Bool} [ArrT P t m e] [Ty P e ag sz] (ho : o.op = .indexAddr t x i) (hx : evC st x = .v v) (hG : st.G j = some (.fact v (.elem cs))) (hi : evC st i = .v (.int ik n)) (hn : n = (k : Int)) (hk : k < m) (hd : cs.drop (k * sz) = d :: ds) : NStep P o st (.elem (d :: ds)) := fun E w a hs => by
 subst hn
 have e1 := (hi ▸ hs.ev i).v_inv
 have e0 := (hx ▸ hs.ev x).v_inv
 obtain ⟨b, off, us, hv, h1, h2, h3, h4, _⟩ := (hs.g.obj j _ hG).2.elem_inv
 refine ⟨.pointer (some ⟨b, off + k * sz, none⟩), hd ▸ R.elem_drop h1 h2 h3 h4 (k * sz) (by rw [hd]; simp), fun w' => ?_⟩
 have q1 := ArrT.spec (P := P) (t := t) (n := m) (e := e)
 have q2 := Ty.size (P := P) (w := w') (t := e) (ag := ag) (n := sz)
 have q3 : (k : Int) < (m : Int) := by omega
 simp [execOp, ho, Instr.indexAt, Instr.sureAddr, e0, hv, e1, asIntOf, run_underlying q1, q2, q3, qn]
 intro h; omega
end Go.AB

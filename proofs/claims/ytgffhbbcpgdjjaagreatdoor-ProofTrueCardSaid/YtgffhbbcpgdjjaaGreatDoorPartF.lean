/-
  What the walks through the program rest on: values, states, steps, calls (TdTips, TfStep, TeTrue, Trod).
-/
import Derived.Test.YtgffhbbcpgdjjaaGreatDoorPartE
import Derived.Carry
namespace Go.AB
open Go Go.RowKit
open Go.AB.Enc (cells)
open Go.PB (ay aj PlaceD bg bi bh bn ak ah cr bq)
section
variable {G H : Nat → Option GObj} {b n nx k : Nat} {e : TypeId} {sz : Nat} {L : Nat → Nat}
theorem wg {m : Nat} (h1 : b ≤ m) (h2 : m < b + n) : jb G b n e sz L m = some (.tip (L (m - b)) e sz) := by
 obtain ⟨i, rfl⟩ : ∃ i, m = b + i := ⟨m - b, by omega⟩
 rw [uh (by omega), Nat.add_sub_cancel_left]
theorem ueg (h : ∀ m o, G m = some o → m < nx) (m : Nat) (o : GObj) (hm : jb G b n e sz L m = some o) : m < nx ∨ (b ≤ m ∧ m < b + n) := by
 by_cases q : b ≤ m ∧ m < b + n
 ·exact .inr q
 rw [nz (by omega)] at hm
 exact .inl (h m o hm)
theorem we {M : Nat} (hb : b + n ≤ M) (h : ∀ m o, G m = some o → H m = some o) (m : Nat) (o : GObj) (hm : jb G b n e sz L m = some o) : H m = some o ∨ (m < M ∧ o.low M) := by
 by_cases q : b ≤ m ∧ m < b + n
 ·rw [wg q.1 q.2] at hm
  simp only [Option.some.injEq] at hm
  subst hm
  exact .inr ⟨by omega, trivial⟩
 rw [nz (by omega)] at hm
 exact .inl (h m o hm)
/-- two more names -/
theorem ume {L' : Nat → Nat} (h1 : H (b + 2 * k) = some (.tip (L' (2 * k)) e sz)) (h2 : H (b + (2 * k + 1)) = some (.tip (L' (2 * k + 1)) e sz)) (hL : ∀ i, i < 2 * k → L' i = L i) (h3 : ∀ m o, jb G b (2 * k) e sz L m = some o → m ≠ b + 2 * k → m ≠ b + (2 * k + 1) → H m = some o) (m : Nat) (o : GObj) (hm : jb G b (2 * (k + 1)) e sz L' m = some o) : H m = some o := by
 by_cases q1 : m = b + 2 * k
 ·subst q1
  rw [uh (by omega)] at hm
  rw [h1]; exact hm
 by_cases q2 : m = b + (2 * k + 1)
 ·subst q2
  rw [uh (by omega)] at hm
  rw [h2]; exact hm
 refine h3 m o ?_ q1 q2
 by_cases q : b ≤ m ∧ m < b + 2 * k
 ·rw [wg q.1 (by omega), hL _ (by omega)] at hm
  rw [wg q.1 q.2]; exact hm
 rw [nz (by omega)] at hm
 rw [nz (by omega)]; exact hm
/-- one that grew -/
theorem qr {i v : Nat} (hi : i < n) (h1 : H (b + i) = some (.tip v e sz)) (h2 : ∀ m o, jb G b n e sz L m = some o → m ≠ b + i → H m = some o) (m : Nat) (o : GObj) (hm : jb G b n e sz (jw L i v) m = some o) : H m = some o := by
 by_cases q : m = b + i
 ·subst q
  rw [uh hi, pn] at hm
  rw [h1]; exact hm
 refine h2 m o ?_ q
 by_cases r : b ≤ m ∧ m < b + n
 ·rw [wg r.1 r.2, n2 _ (by omega)] at hm
  rw [wg r.1 r.2]; exact hm
 rw [nz (by omega)] at hm
 rw [nz (by omega)]; exact hm
end
/-- the lengths of the lists by their names -/
def jt (F W : Nat → List PlaceD) (i : Nat) : Nat := bif decide (i % 2 = 0) then (F (i / 2)).length else (W (i / 2)).length
theorem uei (F W : Nat → List PlaceD) (k : Nat) : jt F W (2 * k) = (F k).length := by
 unfold jt
 rw [decide_eq_true (show 2 * k % 2 = 0 by omega), show 2 * k / 2 = k by omega]; rfl
theorem ueh (F W : Nat → List PlaceD) (k : Nat) : jt F W (2 * k + 1) = (W k).length := by
 unfold jt
 rw [decide_eq_false (show ¬ (2 * k + 1) % 2 = 0 by omega), show (2 * k + 1) / 2 = k by omega]; rfl
theorem ubg (F W : Nat → List PlaceD) (k : Nat) (l : List PlaceD) : jt (j7 F k l) W = jw (jt F W) (2 * k) l.length := by
 funext i
 by_cases e : i = 2 * k
 ·subst e
  rw [pn, uei]
  unfold j7
  rw [decide_eq_true rfl]; rfl
 rw [n2 _ e]
 unfold jt
 by_cases h : i % 2 = 0
 ·rw [decide_eq_true h, cond_true, cond_true]
  unfold j7
  rw [decide_eq_false (show ¬ i / 2 = k by omega)]; rfl
 rw [decide_eq_false h]; rfl
theorem ui (F W : Nat → List PlaceD) (k : Nat) (l : List PlaceD) : jt F (j7 W k l) = jw (jt F W) (2 * k + 1) l.length := by
 funext i
 by_cases e : i = 2 * k + 1
 ·subst e
  rw [pn, ueh]
  unfold j7
  rw [decide_eq_true rfl]; rfl
 rw [n2 _ e]
 unfold jt
 by_cases h : i % 2 = 0
 ·rw [decide_eq_true h]; rfl
 rw [decide_eq_false h, cond_false, cond_false]
 unfold j7
 rw [decide_eq_false (show ¬ i / 2 = k by omega)]; rfl
/-! ### The pages, of which the first ones lost their lists -/
def gp (ps : List ak) (b k : Nat) : List (List C) := ps.mapIdx fun j x => bif decide (j < k) then n4 b j x [] [] else cells x
theorem ubx (ps : List ak) (b k : Nat) : ∀ r ∈ gp ps b k, r.length = 6 := fun r hr => by
 unfold gp at hr
 obtain ⟨i, hi, rfl⟩ := List.mem_mapIdx.1 hr
 cases decide (i < k) <;> rfl
theorem unv (ps : List ak) (b : Nat) : (gp ps b 0).flatten = az ps := by
 unfold gp az
 congr 1
 apply List.ext_getElem?
 intro j
 rw [List.getElem?_mapIdx, List.getElem?_map]
 rfl
theorem un1 (ps : List ak) (b : Nat) : gp ps b ps.length = fq ps b (fun _ => []) fun _ => [] := by
 unfold gp fq
 apply List.ext_getElem?
 intro j
 rw [List.getElem?_mapIdx, List.getElem?_mapIdx]
 by_cases hj : j < ps.length
 ·rw [decide_eq_true hj]; rfl
 rw [List.getElem?_eq_none (by omega)]; rfl
section
variable {ps : List ak} {b k : Nat} {x : ak}
theorem uby (h : ps[k]? = some x) : (gp ps b k)[k]? = some (cells x) := by
 unfold gp
 rw [List.getElem?_mapIdx, h, Option.map_some, decide_eq_false (Nat.lt_irrefl k)]; rfl
theorem uny (h : ps[k]? = some x) : (gp ps b k).set k (n4 b k x [] []) = gp ps b (k + 1) := by
 apply List.ext_getElem?
 intro j
 rw [List.getElem?_set]
 have hk := (List.getElem?_eq_some_iff.1 h).1
 by_cases e : k = j
 ·subst e
  rw [if_pos rfl, if_pos (by unfold gp; rw [List.length_mapIdx]; exact hk)]
  unfold gp
  rw [List.getElem?_mapIdx, h, Option.map_some, decide_eq_true (Nat.lt_succ_self k)]; rfl
 rw [if_neg e]
 unfold gp
 rw [List.getElem?_mapIdx, List.getElem?_mapIdx]
 by_cases hj : j < k
 ·rw [decide_eq_true hj, decide_eq_true (show j < k + 1 by omega)]
 rw [decide_eq_false hj, decide_eq_false (show ¬ j < k + 1 by omega)]
/-- one cell of one row, written; then read -/
theorem ufe {rows : List (List C)} {s : Nat} (h : ∀ r ∈ rows, r.length = s) {r : List C} (hr : rows[k]? = some r) {j : Nat} (hj : j < s) (c : C) : rows.flatten.set (k * s + j) c = (rows.set k (r.set j c)).flatten := ubw h hr hj c
theorem wt (h : ps[k]? = some x) (c4 c5 : C) : ((gp ps b k).flatten.set (k * 6 + 4) c4).set (k * 6 + 5) c5 = ((gp ps b k).set k [.v (.int .i64 x.fr), .v (.int .i64 x.to), .v (.int .i64 x.fst), .v (.int .i64 x.snd), c4, c5]).flatten := by
 have hk : k < (gp ps b k).length := (List.getElem?_eq_some_iff.1 (uby (b := b) h)).1
 have hl := ubx ps b k
 rw [ufe hl (uby h) (by decide)]
 have hl2 : ∀ r ∈ (gp ps b k).set k ((cells x).set 4 c4), r.length = 6 := fun r hr => by
  rcases List.mem_or_eq_of_mem_set hr with hr | rfl
  ·exact hl r hr
  rfl
 rw [ufe hl2 (List.getElem?_set_self hk) (by decide), List.set_set]
 rfl
theorem ufh (h : ps[k]? = some x) (c4 c5 : C) : ((gp ps b k).set k [.v (.int .i64 x.fr), .v (.int .i64 x.to), .v (.int .i64 x.fst), .v (.int .i64 x.snd), c4, c5]).flatten[k * 6 + 4]? = some c4 ∧ ((gp ps b k).set k [.v (.int .i64 x.fr), .v (.int .i64 x.to), .v (.int .i64 x.fst), .v (.int .i64 x.snd), c4, c5]).flatten[k * 6 + 5]? = some c5 := by
 have hk : k < (gp ps b k).length := (List.getElem?_eq_some_iff.1 (uby (b := b) h)).1
 have hl2 : ∀ r ∈ (gp ps b k).set k [.v (.int .i64 x.fr), .v (.int .i64 x.to), .v (.int .i64 x.fst), .v (.int .i64 x.snd), c4, c5], r.length = 6 := fun r hr => by
  rcases List.mem_or_eq_of_mem_set hr with hr | rfl
  ·exact ubx ps b k r hr
  rfl
 exact ⟨tz hl2 (List.getElem?_set_self hk) rfl, tz hl2 (List.getElem?_set_self hk) rfl⟩
theorem unx (h : ps[k]? = some x) (c4 c5 d : C) : ((gp ps b k).set k [.v (.int .i64 x.fr), .v (.int .i64 x.to), .v (.int .i64 x.fst), .v (.int .i64 x.snd), c4, c5]).flatten.set (k * 6 + 4) d = ((gp ps b k).set k [.v (.int .i64 x.fr), .v (.int .i64 x.to), .v (.int .i64 x.fst), .v (.int .i64 x.snd), d, c5]).flatten := by
 rw [← wt h, ← wt h, List.set_comm _ _ (by omega : k * 6 + 5 ≠ k * 6 + 4), List.set_set]
theorem unw (h : ps[k]? = some x) (c4 c5 d : C) : ((gp ps b k).set k [.v (.int .i64 x.fr), .v (.int .i64 x.to), .v (.int .i64 x.fst), .v (.int .i64 x.snd), c4, c5]).flatten.set (k * 6 + 5) d = ((gp ps b k).set k [.v (.int .i64 x.fr), .v (.int .i64 x.to), .v (.int .i64 x.fst), .v (.int .i64 x.snd), c4, d]).flatten := by
 rw [← wt h, ← wt h, List.set_set]
theorem unz (h : ps[k]? = some x) : ((gp ps b k).set k [.v (.int .i64 x.fr), .v (.int .i64 x.to), .v (.int .i64 x.fst), .v (.int .i64 x.snd), .list [] (.tip (b + 2 * k)), .list [] (.tip (b + (2 * k + 1)))]).flatten = (gp ps b (k + 1)).flatten := by
 rw [← uny h]; rfl
/-- the pages with their lists: what is read of them, what is written -/
theorem um {F W : Nat → List PlaceD} (h : ps[k]? = some x) {j : Nat} {c : C} (hc : (n4 b k x (F k) (W k))[j]? = some c) : (fq ps b F W).flatten[k * 6 + j]? = some c := tz (zh ps b F W) (wx h) hc
theorem un8 {F W : Nat → List PlaceD} (h : ps[k]? = some x) (l : List PlaceD) : putAt (fq ps b F W).flatten (k * 6 + 4) [.list (l.map cells) (.tip (b + 2 * k))] = (fq ps b (j7 F k l) W).flatten := by
 rw [← un6 h, ubw (zh ps b F W) (wx h) (by decide)]; rfl
theorem un7 {F W : Nat → List PlaceD} (h : ps[k]? = some x) (l : List PlaceD) : putAt (fq ps b F W).flatten (k * 6 + 5) [.list (l.map cells) (.tip (b + (2 * k + 1)))] = (fq ps b F (j7 W k l)).flatten := by
 rw [← un5 h, ubw (zh ps b F W) (wx h) (by decide)]; rfl
end
theorem wu {ps : List ak} {b k m : Nat} (h : b + 2 * k ≤ m) : ∀ c ∈ (gp ps b k).flatten, C.low m c := fun c hc => by
 obtain ⟨r, hr, hc⟩ := List.mem_flatten.1 hc
 unfold gp at hr
 obtain ⟨i, hi, rfl⟩ := List.mem_mapIdx.1 hr
 by_cases hik : i < k
 ·rw [decide_eq_true hik, cond_true] at hc
  simp only [n4, List.mem_cons, List.not_mem_nil, or_false] at hc
  rcases hc with rfl | rfl | rfl | rfl | rfl | rfl
  ·exact .v
  ·exact .v
  ·exact .v
  ·exact .v
  ·exact fg ([] : List PlaceD) (by omega)
  exact fg ([] : List PlaceD) (by omega)
 rw [decide_eq_false hik, cond_false] at hc
 exact Enc.low m _ c hc
theorem ww {ps : List ak} {b m : Nat} {F W : Nat → List PlaceD} (h : b + 2 * ps.length ≤ m) : ∀ c ∈ (fq ps b F W).flatten, C.low m c := fun c hc => by
 obtain ⟨r, hr, hc⟩ := List.mem_flatten.1 hc
 unfold fq at hr
 obtain ⟨i, hi, rfl⟩ := List.mem_mapIdx.1 hr
 simp only [n4, List.mem_cons, List.not_mem_nil, or_false] at hc
 rcases hc with rfl | rfl | rfl | rfl | rfl | rfl
 ·exact .v
 ·exact .v
 ·exact .v
 ·exact .v
 ·exact fg _ (by omega)
 exact fg _ (by omega)
/-- the lists are lists -/
theorem un2 {ps : List ak} {b : Nat} {F W : Nat → List PlaceD} (f : ak → ak) (h : ∀ (k : Nat) (x : ak), ps[k]? = some x → f x = ⟨x.fr, x.to, x.fst, x.snd, F k, W k⟩) : Wks (fq ps b F W).flatten (az (ps.map f)) := by
 have key : ∀ (l : List ak) (i : Nat), (∀ (k : Nat) (x : ak), l[k]? = some x → f x = ⟨x.fr, x.to, x.fst, x.snd, F (i + k), W (i + k)⟩) → Wks (l.mapIdx fun k x => n4 b (i + k) x (F (i + k)) (W (i + k))).flatten (az (l.map f)) := by
  intro l
  induction l with
  | nil => intro i _; exact trivial
  | cons x l ih =>
   intro i hl
   have h0 := hl 0 x rfl
   have := ih (i + 1) fun k y hy => by
    have := hl (k + 1) y hy
    rwa [show i + 1 + k = i + (k + 1) by omega]
   rw [List.mapIdx_cons, List.flatten_cons, List.map_cons, show az (f x :: l.map f) = cells (f x) ++ az (l.map f) from rfl, h0]
   refine ⟨Wk.refl _, Wk.refl _, Wk.refl _, Wk.refl _, Wk.tok, Wk.tok, ?_⟩
   have e : (fun (k : Nat) (x : ak) => n4 b (i + (k + 1)) x (F (i + (k + 1))) (W (i + (k + 1)))) = fun k x => n4 b (i + 1 + k) x (F (i + 1 + k)) (W (i + 1 + k)) := by
    funext k x
    rw [show i + (k + 1) = i + 1 + k by omega]
   rw [e]
   exact this
 have := key ps 0 fun k x hx => by rw [h k x hx, Nat.zero_add]
 unfold fq
 simpa only [Nat.zero_add] using this
/-! ### So many places for each page -/
def upN (i k j : Nat) : Nat := bif decide (j < k) then i + 1 else i
theorem uln (i : Nat) : upN i 0 = fun _ => i := by funext j; rfl
theorem tf (i k : Nat) : upN i k k = i := by unfold upN; rw [decide_eq_false (Nat.lt_irrefl k)]; rfl
theorem rz (i k : Nat) : jw (upN i k) k (i + 1) = upN i (k + 1) := by
 funext j
 by_cases e : j = k
 ·subst e; rw [pn]; unfold upN; rw [decide_eq_true (Nat.lt_succ_self j)]; rfl
 rw [n2 _ e]
 unfold upN
 by_cases h : j < k
 ·rw [decide_eq_true h, decide_eq_true (show j < k + 1 by omega)]
 rw [decide_eq_false h, decide_eq_false (show ¬ j < k + 1 by omega)]
theorem ud6 (i k j : Nat) : upN i k j ≤ i + 1 := by unfold upN; cases decide (j < k) <;> simp
section
variable {p : ah} {P F : Nat → Bool} {N N' : Nat → Nat}
theorem ust (h : ∀ j, j < p.pages.length → N j = N' j) : fm p P N = fm p P N' := by
 funext j
 unfold fm
 cases hx : p.pages[j]? with
 | none => rfl
 | some x => rw [h j (List.getElem?_eq_some_iff.1 hx).1]
theorem ur1 {b : Bool} (h : ∀ j, j < p.pages.length → N j = N' j) : dv p b P F N = dv p b P F N' := by
 funext j
 unfold dv
 cases hx : p.pages[j]? with
 | none => rfl
 | some x => rw [h j (List.getElem?_eq_some_iff.1 hx).1]
theorem ud5 {i j : Nat} {n : Nat} (h : j < n) : upN i n j = i + 1 := by unfold upN; rw [decide_eq_true h]; rfl
theorem ui0 (i : Nat) : fm p P (upN i p.pages.length) = fm p P fun _ => i + 1 := ust fun _ h => ud5 h
theorem ucy (b : Bool) (i : Nat) : dv p b P F (upN i p.pages.length) = dv p b P F fun _ => i + 1 := ur1 fun _ h => ud5 h
theorem uea (b : Bool) (i : Nat) : dd p b P F (upN i p.pages.length) (upN i p.pages.length) = dd p b P F (fun _ => i + 1) fun _ => i + 1 := ubd (ui0 i) (ucy b i)
end
end Go.AB
namespace Go.Proofs.YtgffhbbcpgdjjaaGreatDoor
set_option maxRecDepth 10000
open Go Go.RowKit Go.AB
open Go.AB.Enc (cells)
theorem ug5 (a b : Nat) (hb : b ≤ a) (ha : a ≤ 1000000) : AB.Pure Tryz.prog 11 [val (⟨(a : Int), (b : Int)⟩ : nv)] (.v (.int .i64 ((ll a b : Nat) : Int))) := by
 refine dg Tryz.func11 rfl (fun m => .v) fun G nx => ?_
 simp only [Tryz.ntmps11, List.length_cons, List.length_nil, Nat.reduceAdd, Nat.reduceSub]
 refine cb fun hlt => ?_
 dsimp only at hlt
 refine cj fun K1 hK1 => ?_
 refine cx ?_
 try dsimp only [St.put]
 refine ae rfl (uda rfl rfl (by simp) ?_)
 refine aa rfl (dp rfl (by constructor)) ?_
 refine cv ?_
 dsimp only [St.put]
 refine hK1 _ ?_
 refine cj fun K2 hK2 => ?_
 refine cj fun K3 hK3 => ?_
 refine cx ?_
 try dsimp only [St.put]
 refine aa rfl (tp (k := 0) rfl rfl rfl (by first | exact rfl | omega) (by first | decide | omega) rfl) ?_
 try dsimp only [St.put]
 refine bk rfl (ca rfl rfl) ?_
 refine aa rfl (gl rfl rfl rfl) ?_
 refine cv ?_
 dsimp only [St.put]
 refine hK3 _ ?_
 refine aq rfl (fun hc => ?_) (fun hc => ?_)
 ·have h0 : a = 0 := by have := of_decide_eq_true hc; omega
  refine cj fun K4 hK4 => ?_
  refine cx ?_
  refine aa rfl (dp rfl (by constructor)) ?_
  refine cv ?_
  dsimp only [St.put]
  refine hK4 _ ?_
  refine ar ?_
  refine bj rfl (by constructor) zN zS ?_
  exact vi (by unfold ll; rw [decide_eq_true h0]; rfl)
 have h0 : a ≠ 0 := by have := of_decide_eq_false hc; omega
 have he : (ll a b : Int) = (100 * ((a : Int) - (b : Int)) + (a : Int) - 1) / (a : Int) := by
  unfold ll
  rw [decide_eq_false h0, cond_false, Int.natCast_ediv]
  congr 1
  omega
 refine ax ?_
 refine hK2 _ ?_
 refine cj fun K5 hK5 => ?_
 refine cx ?_
 try dsimp only [St.put]
 refine aa rfl (tp (k := 0) rfl rfl rfl (by first | exact rfl | omega) (by first | decide | omega) rfl) ?_
 try dsimp only [St.put]
 refine bk rfl (ca rfl rfl) ?_
 try dsimp only [St.put]
 refine aa rfl (tp (k := 1) rfl rfl rfl (by first | exact rfl | omega) (by first | decide | omega) rfl) ?_
 try dsimp only [St.put]
 refine bk rfl (ca rfl rfl) ?_
 refine aa rfl (gr rfl rfl rfl (by omega)) ?_
 refine aa rfl (ra rfl rfl rfl (by omega)) ?_
 try dsimp only [St.put]
 refine aa rfl (tp (k := 0) rfl rfl rfl (by first | exact rfl | omega) (by first | decide | omega) rfl) ?_
 try dsimp only [St.put]
 refine bk rfl (ca rfl rfl) ?_
 refine aa rfl (br rfl rfl rfl (by omega)) ?_
 refine aa rfl (gr rfl rfl rfl (by omega)) ?_
 try dsimp only [St.put]
 refine aa rfl (tp (k := 0) rfl rfl rfl (by first | exact rfl | omega) (by first | decide | omega) rfl) ?_
 try dsimp only [St.put]
 refine bk rfl (ca rfl rfl) ?_
 refine aa rfl (uv rfl rfl rfl (by omega) (by omega)) ?_
 refine aa rfl (dp rfl (by constructor)) ?_
 refine cv ?_
 dsimp only [St.put]
 refine hK5 _ ?_
 refine ar ?_
 refine bj rfl (by constructor) zN zS ?_
 exact vi he.symm
end Go.Proofs.YtgffhbbcpgdjjaaGreatDoor
namespace Go.AB
open Go Go.RowKit
open Go.AB.Enc (cells)
open Go.PB (ay aj PlaceD bg bi bh bn ak ah cr bq)
section
variable {P : Program} {o : Oper} {st : St} {K : St → Prop}
/-- one cell of an own slice is written -/
theorem uar {t : TypeId} [Ty P t false 1] {x y : Operand} {n ver off wv esz len : Nat} {tt : TypeId} {cs : List C} {c : C} (ho : o.op = .store t x y) (hd : o.dst = none) (hx : evC st x = .box n ver off) (hG : st.G n = some (.arr ver wv tt esz len cs)) (hy : km (evC st y) = some [c]) (hb : off < cs.length)
  (h : K { st with G := ai st.G n (.arr ver (wv + 1) tt esz len (cs.set off c)), nx := st.nx }) : EStep P o st K := uas (new := [c]) ho hd hx hG hy rfl hb (Nat.le_refl 1) h
end
theorem un0 (ps : List ak) (b k : Nat) : (gp ps b k).flatten.length = ps.length * 6 := by
 rw [ni (ubx ps b k)]
 unfold gp
 rw [List.length_mapIdx]
theorem un9 (ps : List ak) (b : Nat) (F W : Nat → List PlaceD) : (fq ps b F W).flatten.length = ps.length * 6 := by
 rw [ni (zh ps b F W)]
 unfold fq
 rw [List.length_mapIdx]
theorem z6 (t : aj) (P F : Nat → Bool) (n : Nat) (l : List ak) (b : Bool) (rs : List bn) : (mj t P F n l b rs).length = rs.length := List.length_mapIdx
theorem umb (p : ah) (P : Nat → Bool) : (mw p P).length = p.pages.length := List.length_map _
theorem uex {g : Nat → Int} {m : Int} : ∀ n : Nat, (∀ i, i < n → 0 ≤ g i ∧ g i ≤ m) → 0 ≤ sm n g ∧ sm n g ≤ n * m
 | 0, _ => ⟨Int.le_refl _, by simp [sm]⟩
 | n + 1, h => by
  have h1 := uex n fun i hi => h i (Nat.lt_succ_of_lt hi)
  have h2 := h n (Nat.lt_succ_self n)
  have e : ((n + 1 : Nat) : Int) * m = n * m + m := by rw [Int.natCast_add, Int.add_mul]; simp
  rw [e]
  simp only [sm]
  omega
theorem un4 {ps : List ak} {b k : Nat} {x : ak} {F W : Nat → List PlaceD} (h : ps[k]? = some x) (l : List PlaceD) : (fq ps b F W).flatten.set (k * 6 + 4) (.list (l.map cells) (.tip (b + 2 * k))) = (fq ps b (j7 F k l) W).flatten := un8 h l
theorem un3 {ps : List ak} {b k : Nat} {x : ak} {F W : Nat → List PlaceD} (h : ps[k]? = some x) (l : List PlaceD) : (fq ps b F W).flatten.set (k * 6 + 5) (.list (l.map cells) (.tip (b + (2 * k + 1)))) = (fq ps b F (j7 W k l)).flatten := un7 h l
theorem umg : jt (fun _ => []) (fun _ => []) = fun _ => 0 := by
 funext i
 unfold jt
 cases decide (i % 2 = 0) <;> rfl
section
variable {p : ah} {P F H : Nat → Bool} {N M : Nat → Nat} {b : Bool} {i k r : Nat} {x : ak} {q : PlaceD}
theorem t6 (hx : p.pages[k]? = some x) (hq : (av p.text)[i]? = some q) (h : (dw p.text x q && P i) = false) : fm p P (upN i (k + 1)) = fm p P (upN i k) := by
 rw [← rz]; exact usq hx (tf i k) (usu hq h)
theorem ji (hx : p.pages[k]? = some x) (hq : (av p.text)[i]? = some q) (h : (dw p.text x q && P i && F i) = false) : dv p b P F (upN i (k + 1)) = dv p b P F (upN i k) := by
 rw [← rz]; exact uh3 hx (tf i k) (ur2 hq h)
theorem ny (hx : p.pages[k]? = some x) (hq : (av p.text)[i]? = some q) (h : (dw p.text x q && P i) = false) : dd p b P F (upN i (k + 1)) (upN i (k + 1)) = dd p b P F (upN i k) (upN i k) :=
 ubd (t6 hx hq h) (ji hx hq (by rw [h]; rfl))
theorem usp (hx : p.pages[k]? = some x) (hq : (av p.text)[i]? = some q) (h : (dw p.text x q && P i) = true) : (cc p.pages.length (fm p P (upN i k))).set k (fm p P (upN i k) k + 1) = cc p.pages.length (fm p P (upN i (k + 1))) := by
 rw [y4 _ _ (List.getElem?_eq_some_iff.1 hx).1, ← rz i k]
 congr 1
 exact usr hx (tf i k) (ui2 hq h)
theorem ud8 (hx : p.pages[k]? = some x) (hq : (av p.text)[i]? = some q) (hr : cn b x = (r : Int)) (h : (dw p.text x q && P i) = true) : (dd p b P F (upN i k) M).set r ⟨ptE p b P (upN i k) r + 1, ptH p b P F M r⟩ = dd p b P F (upN i (k + 1)) M := by
 rw [← rz i k]; exact ulx hx (tf i k) hr (ui2 hq h)
theorem ud7 (hx : p.pages[k]? = some x) (hq : (av p.text)[i]? = some q) (hr : cn b x = (r : Int)) (h0 : 0 ≤ cn b x) (h : (dw p.text x q && P i && F i) = true) : (dd p b P F N (upN i k)).set r ⟨ptE p b P N r, ptH p b P F (upN i k) r + 1⟩ = dd p b P F N (upN i (k + 1)) := by
 rw [← rz i k]; exact ulw hx (tf i k) hr (uh4 h0 hq h)
theorem qo (hx : p.pages[k]? = some x) (hq : (av p.text)[i]? = some q) (h : (dw p.text x q && P i && F i) = false) : dd p b P F N (upN i (k + 1)) = dd p b P F N (upN i k) := ubd rfl (ji hx hq h)
theorem oy (hx : p.pages[k]? = some x) (hq : (av p.text)[i]? = some q) (h0 : 0 ≤ cn b x) (h : (dw p.text x q && P i && F i) = true) : j7 (dv p b P F (upN i k)) k (dv p b P F (upN i k) k ++ [q]) = dv p b P F (upN i (k + 1)) := by
 rw [← rz i k]; exact ur0 hx (tf i k) (uh4 h0 hq h)
end
section
variable {p : ah} {P F : Nat → Bool} {b : Bool} {i k : Nat} {x : ak}
theorem ri (hx : p.pages[k]? = some x) (h : ¬ 0 ≤ cn b x) : dv p b P F (upN i (k + 1)) = dv p b P F (upN i k) := by
 rw [← rz]; exact uh3 hx (tf i k) (ur3 h _ _)
theorem qp (hx : p.pages[k]? = some x) (h : ¬ 0 ≤ cn b x) : dd p b P F (upN i (k + 1)) (upN i (k + 1)) = dd p b P F (upN i k) (upN i k) := by
 rw [← rz]; exact uly hx h _ _
end
/-- where the reader stands -/
theorem uf9 {p : ah} (h : et p) {k : Nat} {x : ak} (hx : p.pages[k]? = some x) (b : Bool) (h0 : 0 ≤ cn b x) : ∃ r : Nat, cn b x = (r : Int) ∧ r < (cy p b).length := by
 have hp := pageB_true.1 (h.page k x hx)
 cases b
 ·have h1 := hp.fst
  have h2 : 0 ≤ x.fst := h0
  exact ⟨x.fst.toNat, (by show x.fst = _; omega), (by show x.fst.toNat < p.firsts.length; omega)⟩
 ·have h1 := hp.snd
  have h2 : 0 ≤ x.snd := h0
  exact ⟨x.snd.toNat, (by show x.snd = _; omega), (by show x.snd.toNat < p.seconds.length; omega)⟩
theorem yw {p : ah} {b : Bool} {P F : Nat → Bool} {N M : Nat → Nat} {r : Nat} (h : r < (cy p b).length) : (az (dd p b P F N M))[r * 2 + 0]? = some (.v (.int .i64 (ptE p b P N r))) ∧ (az (dd p b P F N M))[r * 2 + 1]? = some (.v (.int .i64 (ptH p b P F M r))) :=
 ⟨o1 (oo h) rfl, o1 (oo h) rfl⟩
end Go.AB
namespace Go.Proofs.YtgffhbbcpgdjjaaGreatDoor
open Go Go.RowKit Go.AB
theorem ucu (l : List U32) (i : Nat) {n : Int} (hn : n = (i : Int)) (hb : ∀ x ∈ l, 0 ≤ x.v ∧ x.v ≤ 4294967295) (hi : i ≤ 1000000) : AB.Pure Tryz.prog 8 [lst l, .v (.int .i64 n)] (.v (.int .i64 (jl l i))) := by
 subst hn; exact uhw l i hb hi
end Go.Proofs.YtgffhbbcpgdjjaaGreatDoor
namespace Go.Proofs.YtgffhbbcpgdjjaaGreatDoor
set_option maxRecDepth 10000
open Go Go.RowKit Go.AB
open Go.AB.Enc (cells)
open Go.PB (ay aj PlaceD bg bi bh bn ak ah cr bq dr dt)
set_option maxHeartbeats 16000000 in
theorem ul8 (p : ah) (l : List U32) : gd 0 f8 Tryz.prog 3 [val p, lst l] (.v (.bool true)) := fun G nx hF hnx => by
  refine jg (G) (nx) Tryz.func3 rfl (.v) zN (fun hlt => zH) ?_
  simp only [Tryz.ntmps3, List.length_cons, List.length_nil, Nat.reduceAdd, Nat.reduceSub]
  refine cb fun hlt => ?_
  dsimp only at hlt
  refine l9 1 (fun hfl => ?_)
  have hlb := ult hfl
  have hcb := utl hlb
  refine cj fun K1 hK1 => ?_
  refine cx ?_
  try dsimp only [St.put]
  refine ae rfl (uda rfl rfl (by simp) ?_)
  refine aa rfl (dp rfl (by constructor)) ?_
  refine cv ?_
  dsimp only [St.put]
  refine hK1 _ ?_
  refine cj fun K2 hK2 => ?_
  refine cx ?_
  try dsimp only [St.put]
  refine ae rfl ((fa rfl rfl rfl ((uul 0)) zG (by dsimp only [St.put]; omega) ?_))
  refine aa rfl (dp rfl (by constructor)) ?_
  refine cv ?_
  dsimp only [St.put]
  refine hK2 _ ?_
  refine cj fun K3 hK3 => ?_
  refine cj fun K4 hK4 => ?_
  refine cx ?_
  try dsimp only [St.put]
  refine bk rfl (dz rfl rfl (Enc.len _)) ?_
  try dsimp only [St.put]
  refine ae rfl (ba rfl rfl rfl (uhv p) ?_)
  refine aa rfl (ei rfl rfl) ?_
  refine ff (fun hs => ?_) (fun hs => ?_)
  · skip
    refine aa rfl (bl rfl (by constructor)) ?_
    refine rq rfl ?_
    refine rq rfl ?_
    refine aa rfl (ci rfl rfl (by constructor)) ?_
    refine cv ?_
    dsimp only [St.put]
    refine hK4 _ ?_
    refine aq rfl (fun _ => ?_) (fun h => by cases h)
    refine cj fun K5 hK5 => ?_
    refine cx ?_
    refine aa rfl (bl rfl (by constructor)) ?_
    refine aa rfl (dp rfl (by constructor)) ?_
    refine cv ?_
    dsimp only [St.put]
    refine hK5 _ ?_
    refine ar ?_
    refine bj rfl (by constructor) zN zS ?_
    rfl
  have hrd : th p = true := by simpa using hs
  have hC := (readyP_true.1 hrd).2
  have hg := (readyP_true.1 hrd).1
  obtain ⟨hok, _⟩ := nk hC
  have hnp := hok.np
  have hnf := hok.nf
  have hns := hok.ns
  have ht := hok.text
  have hal := mr ht
  refine aa rfl (bl rfl (by constructor)) ?_
  refine aa rfl (bl rfl (by constructor)) ?_
  refine aa rfl (ei rfl rfl) ?_
  refine aa rfl (cz rfl rfl (by constructor)) ?_
  refine cv ?_
  dsimp only [St.put]
  refine hK4 _ ?_
  refine aq rfl (fun h => by cases h) (fun _ => ?_)
  refine ax ?_
  refine hK3 _ ?_
  refine cj fun K6 hK6 => ?_
  refine cx ?_
  try dsimp only [St.put]
  refine bk rfl (dz rfl rfl (Enc.len _)) ?_
  try dsimp only [St.put]
  refine ae rfl (us5 rfl rfl rfl (uoz p hg _ _) (fun ⟨ya, yb, yq, va, vb, vq⟩ ⟨⟨i1, i2, i3⟩, ⟨j1, j2, j3⟩, k1, k2, k4⟩ => ?_))
  try dsimp only [St.put]
  refine ae rfl (dx rfl ?_)
  try dsimp only [St.put]
  refine ae rfl (di rfl rfl rfl zG rfl rfl (by rfl) ?_)
  refine cv ?_
  dsimp only [St.put]
  dsimp only at i1 i2 i3 j1 j2 j3 k1 k2 k4
  refine hK6 _ ?_
  refine cj fun K7 hK7 => ?_
  refine cx ?_
  refine aa rfl (c7 rfl rfl) ?_
  try dsimp only [St.put]
  refine bk rfl (ez rfl rfl zG trivial (by first | rfl | assumption)) ?_
  refine aa rfl (n8 rfl rfl) ?_
  try dsimp only [St.put]
  refine ae rfl (x9 (k := p.pages.length) (0 : Int) rfl rfl rfl rfl rfl rfl (by decide) (by omega) (by omega) ?_)
  refine aa rfl (dp rfl (by constructor)) ?_
  refine cv ?_
  dsimp only [St.put]
  refine hK7 _ ?_
  refine cm 8 ?_
  refine zQ ?_
  refine dm (ai (ai (ai (ai (ai G ya (.arr va 0 47 2 p.firsts.length (az p.firsts))) yb (.arr vb 0 47 2 p.seconds.length (az p.seconds))) yq (.arr vq (2 * p.pages.length) 38 6 p.pages.length (az p.pages))) (nx + 5) (.box 1 [lst p.text, .own ya va p.firsts.length, .own yb vb p.seconds.length, .own yq vq p.pages.length])) (nx + 6) (.arr 0 0 3 1 p.pages.length (az (List.replicate p.pages.length (0 : Int))))) zX ?_
  dsimp only
  refine uj6 (X := Nat × Nat) (fun y => (nx + 7 ≤ y.1 ∧ nx + 7 ≤ y.2) ∧ (y.1 < nx + 9 ∧ y.2 < nx + 9) ∧ y.1 ≠ y.2) (fun y => [(8, .own y.1 0 p.firsts.length), (9, .own y.2 0 p.seconds.length)]) (fun y G' => ai (ai G' y.1 (.arr 0 0 44 2 p.firsts.length (az (List.replicate p.firsts.length (⟨0, 0⟩ : nv))))) y.2 (.arr 0 0 44 2 p.seconds.length (az (List.replicate p.seconds.length (⟨0, 0⟩ : nv))))) (fun _ => nx + 9) rfl ?_ ?_ ?_ ?_ ?_
  · rintro ⟨ea, eb⟩ hI
    dsimp only at hI ⊢
    omega
  · rintro ⟨ea, eb⟩ hI
    dsimp only at hI ⊢
    obtain ⟨⟨a1, a2⟩, ⟨b1, b2⟩, ab⟩ := hI
    exact zL
  · rintro ⟨ea, eb⟩ hI
    dsimp only at hI ⊢
    obtain ⟨⟨a1, a2⟩, ⟨b1, b2⟩, ab⟩ := hI
    exact zH
  · refine udm [(0, none), (1, none), (2, none), (4, none), (5, none), (6, none)] (fun i => [].contains i) (fun i => [0, 2, 4, 6].contains i) 4 (rl [3, 1, 3, 3]) [nx + 5] (by kernel_rfl) (by kernel_rfl) ?_
    refine af rfl rfl rfl rfl (c7 rfl rfl) ?_
    try dsimp only [St.put]
    refine aw rfl rfl rfl rfl (ez rfl rfl zG (by simp) (by first | rfl | assumption)) ?_
    refine af rfl rfl rfl rfl (n8 rfl rfl) ?_
    refine af rfl rfl rfl rfl (c7 rfl rfl) ?_
    try dsimp only [St.put]
    refine aw rfl rfl rfl rfl (ez rfl rfl zG (by simp) (by first | rfl | assumption)) ?_
    refine af rfl rfl rfl rfl (n8 rfl rfl) ?_
    refine cw ⟨zD, ?_⟩
    refine qj [3, 7] (by kernel_rfl) (by simp) ?_
    refine qi ?_ ?_
    · try dsimp only [St.put]
      refine ua3 rfl rfl rfl (x9 (k := p.firsts.length) (⟨0, 0⟩ : nv) rfl rfl rfl rfl rfl rfl (by decide) (by omega) (by omega) ⟨zD, ?_⟩)
      refine ru [(8, none)] 2 (rl [7, 1, 1, 1]) (by kernel_rfl) ?_
      refine af rfl rfl rfl rfl (dp rfl (by constructor)) ?_
      refine cw ⟨zD, ?_⟩
      refine qj [7] (by kernel_rfl) (by simp) ?_
      refine qi ?_ ?_
      · try dsimp only [St.put]
        refine ua3 rfl rfl rfl (x9 (k := p.seconds.length) (⟨0, 0⟩ : nv) rfl rfl rfl rfl rfl rfl (by decide) (by omega) (by omega) ⟨zD, ?_⟩)
        refine ru [(9, none)] 0 (rl [10]) (by kernel_rfl) ?_
        refine af rfl rfl rfl rfl (dp rfl (by constructor)) ?_
        refine cw ⟨zD, ?_⟩
        dsimp only [St.put]
        refine ua6 (by kernel_rfl) ?_
        first
        | exact ⟨(nx + 7, nx + 8), ⟨⟨by (dsimp only; omega), by (dsimp only; omega)⟩, ⟨by (dsimp only; omega), by (dsimp only; omega)⟩, by (dsimp only; omega)⟩, ⟨⟨rfl, rfl⟩, zF, .inr ⟨.inr rfl, .inr rfl, trivial⟩, zN, zX⟩⟩
        | exact ⟨(nx + 8, nx + 7), ⟨⟨by (dsimp only; omega), by (dsimp only; omega)⟩, ⟨by (dsimp only; omega), by (dsimp only; omega)⟩, by (dsimp only; omega)⟩, ⟨⟨rfl, rfl⟩, zF, .inr ⟨.inr rfl, .inr rfl, trivial⟩, zN, zX⟩⟩
      exact rr
    refine qi ?_ ?_
    · try dsimp only [St.put]
      refine ua3 rfl rfl rfl (x9 (k := p.seconds.length) (⟨0, 0⟩ : nv) rfl rfl rfl rfl rfl rfl (by decide) (by omega) (by omega) ⟨zD, ?_⟩)
      refine qj [3] (by kernel_rfl) (by simp) ?_
      refine qi ?_ ?_
      · try dsimp only [St.put]
        refine ua3 rfl rfl rfl (x9 (k := p.firsts.length) (⟨0, 0⟩ : nv) rfl rfl rfl rfl rfl rfl (by decide) (by omega) (by omega) ⟨zD, ?_⟩)
        refine ru [(8, none), (9, none)] 0 (rl [10]) (by kernel_rfl) ?_
        refine af rfl rfl rfl rfl (dp rfl (by constructor)) ?_
        refine af rfl rfl rfl rfl (dp rfl (by constructor)) ?_
        refine cw ⟨zD, ?_⟩
        dsimp only [St.put]
        refine ua6 (by kernel_rfl) ?_
        first
        | exact ⟨(nx + 7, nx + 8), ⟨⟨by (dsimp only; omega), by (dsimp only; omega)⟩, ⟨by (dsimp only; omega), by (dsimp only; omega)⟩, by (dsimp only; omega)⟩, ⟨⟨rfl, rfl⟩, zF, .inr ⟨.inr rfl, .inr rfl, trivial⟩, zN, zX⟩⟩
        | exact ⟨(nx + 8, nx + 7), ⟨⟨by (dsimp only; omega), by (dsimp only; omega)⟩, ⟨by (dsimp only; omega), by (dsimp only; omega)⟩, by (dsimp only; omega)⟩, ⟨⟨rfl, rfl⟩, zF, .inr ⟨.inr rfl, .inr rfl, trivial⟩, zN, zX⟩⟩
      exact rr
    exact rr
  rintro ⟨ea, eb⟩ hI
  dsimp only at hI ⊢
  obtain ⟨⟨a1, a2⟩, ⟨b1, b2⟩, ab⟩ := hI
  refine cj fun K9 hK9 => ?_
  obtain ⟨of, hof⟩ : ∃ of, 1 + jl l 0 % 6 = of := ⟨_, rfl⟩
  have hofb : 1 ≤ of ∧ of ≤ 6 := by omega
  refine cx ?_
  refine aa rfl (bl rfl (by constructor)) ?_
  try dsimp only [St.put]
  refine ae rfl (ba rfl rfl rfl (uhw l 0 hlb (by omega)) ?_)
  refine aa rfl ((xi (r := jl l 0 % 6) rfl rfl rfl rfl (by have := hcb 0; omega) (by omega))) ?_
  refine aa rfl (br rfl rfl rfl (by omega)) ?_
  refine aa rfl (dp rfl (by constructor)) ?_
  refine cv ?_
  dsimp only [St.put]
  rw [hof]
  obtain ⟨P, hP⟩ : ∃ P : Nat → Bool, ∀ i, P i = decide (jl l (1 + 3 * i) % of = 0) := ⟨fun i => decide (jl l (1 + 3 * i) % of = 0), fun _ => rfl⟩
  obtain ⟨F, hFd⟩ : ∃ F : Nat → Bool, ∀ i, F i = decide (0 < jl l (2 + 3 * i) % 4) := ⟨fun i => decide (0 < jl l (2 + 3 * i) % 4), fun _ => rfl⟩
  obtain ⟨H, hH⟩ : ∃ H : Nat → Bool, ∀ i, H i = decide (0 < jl l (3 + 3 * i) % 3) := ⟨fun i => decide (0 < jl l (3 + 3 * i) % 3), fun _ => rfl⟩
  rw [show az (List.replicate p.pages.length (0 : Int)) = az (cc p.pages.length (fm p P fun _ => 0)) by rw [uiz, uom], show az (List.replicate p.firsts.length (⟨0, 0⟩ : nv)) = az (dd p false P F (fun _ => 0) fun _ => 0) by rw [← ud9]; rfl, show az (List.replicate p.seconds.length (⟨0, 0⟩ : nv)) = az (dd p true P H (fun _ => 0) fun _ => 0) by rw [← ud9]; rfl, ← unv p.pages (nx + 9)]
  have hlt0 := hlt
  refine hK9 _ ?_
  refine cj fun K10 hK10 => ?_
  refine cj fun K11 hK11 => ?_
  refine cx ?_
  refine aa rfl (c7 rfl rfl) ?_
  try dsimp only [St.put]
  refine bk rfl (ez rfl rfl zG trivial (by first | rfl | assumption)) ?_
  refine aa rfl (n8 rfl rfl) ?_
  refine aa rfl (bl rfl (by constructor)) ?_
  refine cv ?_
  dsimp only [St.put]
  refine hK11 _ ?_
  refine bf ?_
  refine cm 69 ?_
  refine zQ ?_
  refine uua (X := Nat × Nat) (fun z => z.1 ≤ p.pages.length) (fun z => p.pages.length - z.1) (fun z => [(11, .any), (68, .v (.int .i64 (z.1 : Int)))]) (fun z G' => ((ai (ai (ai (ai (ai (ai (ai (((jb G (nx + 9) ((2 * z.1)) 41 3 ((fun _ => 0))))) ya (.arr va 0 47 2 p.firsts.length (az (p.firsts)))) yb (.arr vb 0 47 2 p.seconds.length (az (p.seconds)))) (nx + 5) (.box 1 [lst p.text, .own ya va p.firsts.length, .own yb vb p.seconds.length, .own yq vq p.pages.length])) (nx + 6) (.arr 0 0 3 1 p.pages.length (az ((cc p.pages.length (fm p P fun _ => 0)))))) ea (.arr 0 0 44 2 p.firsts.length (az ((dd p false P F (fun _ => 0) (fun _ => 0)))))) eb (.arr 0 0 44 2 p.seconds.length (az ((dd p true P H (fun _ => 0) (fun _ => 0)))))) yq (.arr vq z.2 38 6 p.pages.length (((gp p.pages (nx + 9) z.1).flatten)))))) (fun z => nx + 9 + 2 * z.1) (0, 2 * p.pages.length) rfl ?_ ?_ (rfl) ?_ ?_ ?_ ?_ ?_
  · exact Nat.zero_le _
  · exact zF
  · rw [Nat.mul_zero, umf]
    exact zX
  · rintro ⟨k, W⟩ hI
    (try dsimp only); omega
  · rintro ⟨k, W⟩ hI
    exact zL
  · rintro ⟨k, W⟩ hI
    ((repeat' (refine ka ?_ (by (try dsimp only); omega) ?_)); all_goals (first | exact we (by (try dsimp only); omega) (by intro m o h; have := hlt0 m o h; (try dsimp only); repeat (first | exact h | rw [ct (by omega)] | rw [nz (by omega)] | rw [ki (by omega)])) | exact wu (by (try dsimp only); omega) | exact ww (by (try dsimp only); omega) | (repeat' (first | exact trivial | refine ⟨?_, ?_⟩ | exact .v | exact .any | refine .elem ?_ | exact bv _ _ | exact fy _ _ | exact eu _ _ | exact fg _ (by (try dsimp only); omega) | exact .box (by (try dsimp only); omega) | exact fj | exact dq | refine f9 ?_ ?_ | exact .arr (by (try dsimp only); omega) | exact .own (by (try dsimp only); omega) | exact .map (by (try dsimp only); omega) | exact e8 _ | refine ce ?_ ?_ | exact bv _ _))))
  rintro ⟨k, W⟩ hI
  dsimp only at hI ⊢
  have hlt : ∀ m o, (jb G (nx + 9) ((2 * k)) 41 3 ((fun _ => 0))) m = some o → m < nx ∨ (nx + 9 ≤ m ∧ m < nx + 9 + 2 * k) := ueg hlt0
  refine cj fun K12 hK12 => ?_
  refine cx ?_
  refine aa rfl (ck rfl rfl rfl) ?_
  refine cv ?_
  dsimp only [St.put]
  refine hK12 _ ?_
  refine cj fun K13 hK13 => ?_
  refine aq rfl (fun hc => ?_) (fun hc => ?_)
  · replace hc := of_decide_eq_true hc
    have hkl : k < p.pages.length := by omega
    obtain ⟨x, hx⟩ : ∃ x, p.pages[k]? = some x := dl hkl
    have hfl6 := un0 p.pages (nx + 9) k
    refine ax ?_
    refine hK13 _ ?_
    refine cj fun K14 hK14 => ?_
    refine bf ?_
    refine cj fun K15 hK15 => ?_
    refine cx ?_
    refine aa rfl (bl rfl (by constructor)) ?_
    refine aa rfl (dp rfl (by constructor)) ?_
    refine cv ?_
    dsimp only [St.put]
    refine hK15 _ ?_
    refine fw [(0, none), (1, none), (2, none), (3, none), (4, none), (5, none), (6, none), (7, none), (8, none), (9, none), (10, none), (11, none)] (fun i => [11].contains i) (fun i => [8, 11].contains i) (fun i => [0, 2, 3, 5, 6, 7, 9, 10].contains i) [nx + 5] (by kernel_rfl) (by kernel_rfl) ?_
    refine af rfl rfl rfl rfl (c7 rfl rfl) ?_
    try dsimp only [St.put]
    refine aw rfl rfl rfl rfl (ez rfl rfl zG (by simp) (by first | rfl | assumption)) ?_
    refine af rfl rfl rfl rfl (bl rfl (by constructor)) ?_
    refine af rfl rfl rfl rfl (c7 rfl rfl) ?_
    try dsimp only [St.put]
    refine aw rfl rfl rfl rfl (ez rfl rfl zG (by simp) (by first | rfl | assumption)) ?_
    refine af rfl rfl rfl rfl (bl rfl (by constructor)) ?_
    try dsimp only [St.put]
    refine af rfl rfl rfl rfl ((iq rfl rfl zG rfl rfl hkl)) ?_
    refine af rfl rfl rfl rfl (c7 rfl rfl) ?_
    refine gu ?_
    try dsimp only [St.put]
    refine ij rfl rfl rfl (uar (c := .list [] .nil) rfl rfl rfl zG rfl (by omega) ⟨zD, ?_⟩)
    try dsimp only [St.put]
    refine ec rfl rfl rfl rfl ((iq rfl rfl zG rfl rfl hkl)) ?_
    refine ec rfl rfl rfl rfl (c7 rfl rfl) ?_
    try dsimp only [St.put]
    refine f4 rfl rfl rfl rfl (uar (c := .list [] .nil) rfl rfl rfl zG rfl (by rw [List.length_set]; omega) ?_)
    refine gt ?_
    dsimp only [St.put]
    refine hK14 _ ?_
    rw [wt hx]
    refine uj9 yq (k * 6 + 4) _ 41 3 zG (ufh hx _ _).1 (by decide) ?_
    dsimp only
    rw [unx hx]
    refine uj9 yq (k * 6 + 5) _ 41 3 zG (ufh hx _ _).2 (by decide) ?_
    dsimp only
    rw [unw hx, show nx + 9 + 2 * k + 1 = nx + 9 + (2 * k + 1) by omega, unz hx]
    refine cx ?_
    refine aa rfl (br rfl rfl rfl (by omega)) ?_
    refine aa rfl (bl rfl (by constructor)) ?_
    refine cv ?_
    dsimp only [St.put]
    exact ⟨(k + 1, W + 2), by (dsimp only; omega), by (dsimp only; omega), ⟨⟨rfl, rfl⟩, zF, zB, zN, by (repeat' (refine da zG ?_)); exact ume zG zG (fun _ _ => rfl) (by intro m o h h1 h2; have := hlt m o h; (try dsimp only); repeat (first | exact h | rw [ct (by omega)]))⟩⟩
  replace hc := of_decide_eq_false hc
  obtain rfl : k = p.pages.length := by omega
  have hlt : ∀ {L : Nat → Nat} (m : Nat) (o : GObj), jb G (nx + 9) (2 * p.pages.length) 41 3 L m = some o → m < nx ∨ (nx + 9 ≤ m ∧ m < nx + 9 + 2 * p.pages.length) := fun {L} => ueg hlt0
  have e1 : gp p.pages (nx + 9) p.pages.length = fq p.pages (nx + 9) (dv p false P F fun _ => 0) (dv p true P H fun _ => 0) := by rw [xw, xw]; exact un1 _ _
  have e2 : jt (dv p false P F fun _ => 0) (dv p true P H fun _ => 0) = fun _ => 0 := by rw [xw, xw]; exact umg
  rw [e1, show (jb G (nx + 9) ((2 * p.pages.length)) 41 3 ((fun _ => 0))) = (jb G (nx + 9) ((2 * p.pages.length)) 41 3 ((jt (dv p false P F fun _ => 0) (dv p true P H fun _ => 0)))) by rw [e2]]
  refine c6 ?_
  refine hK10 _ ?_
  refine cj fun K16 hK16 => ?_
  refine cj fun K17 hK17 => ?_
  refine cx ?_
  refine aa rfl (c7 rfl rfl) ?_
  try dsimp only [St.put]
  refine bk rfl (qu rfl rfl zG trivial (by simp)) ?_
  try dsimp only [St.put]
  refine ae rfl (ba rfl rfl rfl (ub1 p.text ht) ?_)
  refine aa rfl (bp rfl rfl (List.length_map _)) ?_
  refine aa rfl (bl rfl (by constructor)) ?_
  refine cv ?_
  dsimp only [St.put]
  refine hK17 _ ?_
  refine bf ?_
  refine cm 87 ?_
  refine zQ ?_
  refine dj (X := Nat × Nat × Nat × Nat × Nat) (fun y => y.1 ≤ (av p.text).length) (fun y => (av p.text).length - y.1) (fun y => [(12, .any), (13, .any), (14, .any), (15, .any), (16, .any), (86, .v (.int .i64 (y.1 : Int)))]) (fun y G' => ((ai (ai (ai (ai (ai (ai (ai (((jb G (nx + 9) ((2 * p.pages.length)) 41 3 ((jt (dv p false P F ((fun _ => y.1))) (dv p true P H ((fun _ => y.1)))))))) ya (.arr va 0 47 2 p.firsts.length (az (p.firsts)))) yb (.arr vb 0 47 2 p.seconds.length (az (p.seconds)))) (nx + 5) (.box 1 [lst p.text, .own ya va p.firsts.length, .own yb vb p.seconds.length, .own yq vq p.pages.length])) (nx + 6) (.arr 0 y.2.1 3 1 p.pages.length (az ((cc p.pages.length (fm p P ((fun _ => y.1)))))))) ea (.arr 0 y.2.2.1 44 2 p.firsts.length (az ((dd p false P F ((fun _ => y.1)) ((fun _ => y.1))))))) eb (.arr 0 y.2.2.2.1 44 2 p.seconds.length (az ((dd p true P H ((fun _ => y.1)) ((fun _ => y.1))))))) yq (.arr vq y.2.2.2.2 38 6 p.pages.length (((fq p.pages (nx + 9) (dv p false P F ((fun _ => y.1))) (dv p true P H ((fun _ => y.1)))).flatten)))))) (0, 0, 0, 0, W) rfl ?_ ?_ ?_ ?_ ?_ ?_
  · exact Nat.zero_le _
  · exact zF
  · exact zX
  · rintro ⟨i, ue, ua, ub, uq⟩ hI
    exact zL
  · exact fun y hI => (by (intro m0 o0; revert m0 o0; try dsimp only); ((repeat' (refine ka ?_ (by (try dsimp only); omega) ?_)); all_goals (first | exact we (by (try dsimp only); omega) (by intro m o h; have := hlt0 m o h; (try dsimp only); repeat (first | exact h | rw [ct (by omega)] | rw [nz (by omega)] | rw [ki (by omega)])) | exact wu (by (try dsimp only); omega) | exact ww (by (try dsimp only); omega) | (repeat' (first | exact trivial | refine ⟨?_, ?_⟩ | exact .v | exact .any | refine .elem ?_ | exact bv _ _ | exact fy _ _ | exact eu _ _ | exact fg _ (by (try dsimp only); omega) | exact .box (by (try dsimp only); omega) | exact fj | exact dq | refine f9 ?_ ?_ | exact .arr (by (try dsimp only); omega) | exact .own (by (try dsimp only); omega) | exact .map (by (try dsimp only); omega) | exact e8 _ | refine ce ?_ ?_ | exact bv _ _)))))
  rintro ⟨i, ue, ua, ub, uq⟩ hJ
  dsimp only at hJ ⊢
  refine cj fun K18 hK18 => ?_
  refine cx ?_
  refine aa rfl (ck rfl rfl rfl) ?_
  refine cv ?_
  dsimp only [St.put]
  refine hK18 _ ?_
  refine cj fun K19 hK19 => ?_
  refine aq rfl (fun hc => ?_) (fun hc => ?_)
  · replace hc := of_decide_eq_true hc
    obtain ⟨q, hq⟩ : ∃ q, (av p.text)[i]? = some q := dl (by omega)
    have hpb := allQ_mem.1 (List.mem_of_getElem? hq)
    refine ax ?_
    refine hK19 _ ?_
    refine cj fun K20 hK20 => ?_
    refine bf ?_
    refine cj fun K21 hK21 => ?_
    refine cx ?_
    refine aa rfl (bl rfl (by constructor)) ?_
    try dsimp only [St.put]
    refine aa rfl (bw rfl rfl rfl rfl (bu (by assumption)) (Enc.len _)) ?_
    try dsimp only [St.put]
    refine bk rfl (dz rfl rfl (Enc.len _)) ?_
    try dsimp only [St.put]
    refine ae rfl (dx rfl ?_)
    refine aa rfl (dp rfl (by constructor)) ?_
    try dsimp only [St.put]
    refine ae rfl (di rfl rfl rfl zG rfl rfl (by rfl) ?_)
    refine cv ?_
    dsimp only [St.put]
    refine hK21 _ ?_
    refine gg (i := 13) rfl zG zC ?_
    dsimp only
    refine cj fun K22 hK22 => ?_
    refine cx ?_
    refine aa rfl (c7 rfl rfl) ?_
    try dsimp only [St.put]
    refine bk rfl (qu rfl rfl zG trivial (by simp)) ?_
    try dsimp only [St.put]
    refine bk rfl (dz rfl rfl (Enc.len _)) ?_
    try dsimp only [St.put]
    refine ae rfl (ba rfl rfl rfl (zj p.text q ht hpb) ?_)
    refine aa rfl (dp rfl (by constructor)) ?_
    refine cv ?_
    dsimp only [St.put]
    refine hK22 _ ?_
    refine cj fun K23 hK23 => ?_
    refine cx ?_
    refine aa rfl (c7 rfl rfl) ?_
    try dsimp only [St.put]
    refine bk rfl (ez rfl rfl zG trivial (by first | rfl | assumption)) ?_
    refine aa rfl (n8 rfl rfl) ?_
    refine aa rfl (bl rfl (by constructor)) ?_
    refine cv ?_
    dsimp only [St.put]
    refine hK23 _ ?_
    refine bf ?_
    refine cm 99 ?_
    refine zQ ?_
    refine dj (X := Nat × Nat × Nat × Nat × Nat) (fun z => z.1 ≤ p.pages.length) (fun z => p.pages.length - z.1) (fun z => [(15, .any), (16, .any), (98, .v (.int .i64 (z.1 : Int)))]) (fun z G' => ((ai (ai (ai (ai (ai (ai (ai (((jb G (nx + 9) ((2 * p.pages.length)) 41 3 ((jt (dv p false P F ((upN i z.1))) (dv p true P H ((upN i z.1)))))))) ya (.arr va 0 47 2 p.firsts.length (az (p.firsts)))) yb (.arr vb 0 47 2 p.seconds.length (az (p.seconds)))) (nx + 5) (.box 1 [lst p.text, .own ya va p.firsts.length, .own yb vb p.seconds.length, .own yq vq p.pages.length])) (nx + 6) (.arr 0 z.2.1 3 1 p.pages.length (az ((cc p.pages.length (fm p P ((upN i z.1)))))))) ea (.arr 0 z.2.2.1 44 2 p.firsts.length (az ((dd p false P F ((upN i z.1)) ((upN i z.1))))))) eb (.arr 0 z.2.2.2.1 44 2 p.seconds.length (az ((dd p true P H ((upN i z.1)) ((upN i z.1))))))) yq (.arr vq z.2.2.2.2 38 6 p.pages.length (((fq p.pages (nx + 9) (dv p false P F ((upN i z.1))) (dv p true P H ((upN i z.1)))).flatten)))))) (0, ue, ua, ub, uq) rfl ?_ ?_ ?_ ?_ ?_ ?_
    · exact Nat.zero_le _
    · exact zF
    · dsimp only
      rw [uln]
      exact zX
    · rintro ⟨k, ue, ua, ub, uq⟩ hI
      exact zL
    · exact fun z hI => (by (intro m0 o0; revert m0 o0; try dsimp only); ((repeat' (refine ka ?_ (by (try dsimp only); omega) ?_)); all_goals (first | exact we (by (try dsimp only); omega) (by intro m o h; have := hlt0 m o h; (try dsimp only); repeat (first | exact h | rw [ct (by omega)] | rw [nz (by omega)] | rw [ki (by omega)])) | exact wu (by (try dsimp only); omega) | exact ww (by (try dsimp only); omega) | (repeat' (first | exact trivial | refine ⟨?_, ?_⟩ | exact .v | exact .any | refine .elem ?_ | exact bv _ _ | exact fy _ _ | exact eu _ _ | exact fg _ (by (try dsimp only); omega) | exact .box (by (try dsimp only); omega) | exact fj | exact dq | refine f9 ?_ ?_ | exact .arr (by (try dsimp only); omega) | exact .own (by (try dsimp only); omega) | exact .map (by (try dsimp only); omega) | exact e8 _ | refine ce ?_ ?_ | exact bv _ _)))))
    rintro ⟨k, ue, ua, ub, uq⟩ hK
    dsimp only at hK ⊢
    refine cj fun K24 hK24 => ?_
    refine cx ?_
    refine aa rfl (ck rfl rfl rfl) ?_
    refine cv ?_
    dsimp only [St.put]
    refine hK24 _ ?_
    refine cj fun K25 hK25 => ?_
    refine aq rfl (fun hc => ?_) (fun hc => ?_)
    · replace hc := of_decide_eq_true hc
      have hkl : k < p.pages.length := by omega
      obtain ⟨x, hx⟩ : ∃ x, p.pages[k]? = some x := dl hkl
      have hup : ∀ j, upN i k j ≤ 600 := fun j => Nat.le_trans (ud6 i k j) (by omega)
      have hup1 : ∀ j, upN i (k + 1) j ≤ 600 := fun j => Nat.le_trans (ud6 i (k + 1) j) (by omega)
      have heb := ui1 p P (upN i k) hup k
      have hc0 : ∀ A B, (fq p.pages (nx + 9) A B).flatten[k * 6 + 0]? = some (.v (.int .i64 x.fr)) := fun A B => um hx rfl
      have hc1 : ∀ A B, (fq p.pages (nx + 9) A B).flatten[k * 6 + 1]? = some (.v (.int .i64 x.to)) := fun A B => um hx rfl
      have hc2 : ∀ A B, (fq p.pages (nx + 9) A B).flatten[k * 6 + 2]? = some (.v (.int .i64 x.fst)) := fun A B => um hx rfl
      have hc3 : ∀ A B, (fq p.pages (nx + 9) A B).flatten[k * 6 + 3]? = some (.v (.int .i64 x.snd)) := fun A B => um hx rfl
      have hc4 : ∀ A B, (fq p.pages (nx + 9) A B).flatten[k * 6 + 4]? = some (.list ((A k).map cells) (.tip (nx + 9 + 2 * k))) := fun A B => um hx rfl
      have hc5 : ∀ A B, (fq p.pages (nx + 9) A B).flatten[k * 6 + 5]? = some (.list ((B k).map cells) (.tip (nx + 9 + (2 * k + 1)))) := fun A B => um hx rfl
      have hfl6 : ∀ A B, (fq p.pages (nx + 9) A B).flatten.length = p.pages.length * 6 := fun A B => un9 p.pages (nx + 9) A B
      have hT4 : ∀ A B, (jb G (nx + 9) ((2 * p.pages.length)) 41 3 ((jt A B))) (nx + 9 + 2 * k) = some (.tip (A k).length 41 3) := fun A B => by rw [uh (by omega), uei]
      have hT5 : ∀ A B, (jb G (nx + 9) ((2 * p.pages.length)) 41 3 ((jt A B))) (nx + 9 + (2 * k + 1)) = some (.tip (B k).length 41 3) := fun A B => by rw [uh (by omega), ueh]
      refine ax ?_
      refine hK25 _ ?_
      refine cm 99 ?_
      refine zQ ?_
      refine lf (X := Nat × Nat × Nat × Nat) (fun z => True) (fun z => [(15, .any), (16, .any)]) (fun z G' => ((ai (ai (ai (ai (ai (ai (ai (((jb G (nx + 9) ((2 * p.pages.length)) 41 3 ((jt (dv p false P F ((upN i (k + 1)))) (dv p true P H ((upN i (k + 1))))))))) ya (.arr va 0 47 2 p.firsts.length (az (p.firsts)))) yb (.arr vb 0 47 2 p.seconds.length (az (p.seconds)))) (nx + 5) (.box 1 [lst p.text, .own ya va p.firsts.length, .own yb vb p.seconds.length, .own yq vq p.pages.length])) (nx + 6) (.arr 0 z.1 3 1 p.pages.length (az ((cc p.pages.length (fm p P ((upN i (k + 1))))))))) ea (.arr 0 z.2.1 44 2 p.firsts.length (az ((dd p false P F ((upN i (k + 1))) ((upN i (k + 1)))))))) eb (.arr 0 z.2.2.1 44 2 p.seconds.length (az ((dd p true P H ((upN i (k + 1))) ((upN i (k + 1)))))))) yq (.arr vq z.2.2.2 38 6 p.pages.length (((fq p.pages (nx + 9) (dv p false P F ((upN i (k + 1)))) (dv p true P H ((upN i (k + 1))))).flatten)))))) rfl ?_ ?_ ?_ ?_
      · rintro ⟨xe, xa, xb, xq⟩ hI
        exact zL
      · rintro ⟨xe, xa, xb, xq⟩ hI
        ((repeat' (refine ka ?_ (by (try dsimp only); omega) ?_)); all_goals (first | exact we (by (try dsimp only); omega) (by intro m o h; have := hlt0 m o h; (try dsimp only); repeat (first | exact h | rw [ct (by omega)] | rw [nz (by omega)] | rw [ki (by omega)])) | exact wu (by (try dsimp only); omega) | exact ww (by (try dsimp only); omega) | (repeat' (first | exact trivial | refine ⟨?_, ?_⟩ | exact .v | exact .any | refine .elem ?_ | exact bv _ _ | exact fy _ _ | exact eu _ _ | exact fg _ (by (try dsimp only); omega) | exact .box (by (try dsimp only); omega) | exact fj | exact dq | refine f9 ?_ ?_ | exact .arr (by (try dsimp only); omega) | exact .own (by (try dsimp only); omega) | exact .map (by (try dsimp only); omega) | exact e8 _ | refine ce ?_ ?_ | exact bv _ _))))
      · refine bf ?_
        refine cj fun K27 hK27 => ?_
        refine cx ?_
        refine aa rfl (bl rfl (by constructor)) ?_
        refine aa rfl (dp rfl (by constructor)) ?_
        refine cv ?_
        dsimp only [St.put]
        refine hK27 _ ?_
        refine cj fun K28 hK28 => ?_
        refine cx ?_
        refine aa rfl (c7 rfl rfl) ?_
        try dsimp only [St.put]
        refine bk rfl (ez rfl rfl zG trivial (by first | rfl | assumption)) ?_
        refine aa rfl (bl rfl (by constructor)) ?_
        try dsimp only [St.put]
        refine aa rfl ((iq rfl rfl zG rfl rfl hkl)) ?_
        refine aa rfl (dp rfl (by constructor)) ?_
        refine cv ?_
        dsimp only [St.put]
        refine hK28 _ ?_
        refine cj fun K29 hK29 => ?_
        refine cj fun K30 hK30 => ?_
        refine cx ?_
        refine aa rfl (bl rfl (by constructor)) ?_
        refine aa rfl (bl rfl (by constructor)) ?_
        refine aa rfl (iy rfl rfl) ?_
        refine aa rfl (c7 rfl rfl) ?_
        try dsimp only [St.put]
        refine bk rfl ((gy rfl rfl zG (by simp) (hc0 _ _))) ?_
        refine aa rfl (ck rfl rfl rfl) ?_
        refine aa rfl (bl rfl (by constructor)) ?_
        refine ff (fun hs => ?_) (fun hs => ?_)
        · have hfr := of_decide_eq_true hs
          have hno : (dw p.text x q && P i) = false := by
            rw [show dw p.text x q = false from inB_false.2 (by omega)]; rfl
          refine rq rfl ?_
          refine rq rfl ?_
          refine rq rfl ?_
          refine rq rfl ?_
          refine rq rfl ?_
          refine rq rfl ?_
          refine aa rfl (ci rfl rfl (by constructor)) ?_
          refine cv ?_
          dsimp only [St.put]
          refine hK30 _ ?_
          refine aq rfl (fun _ => ?_) (fun h => by cases h)
          first
            | (have hto := of_decide_eq_true (p := x.to < rg p.text q) hc
               have hno : (dw p.text x q && P i) = false := by
                 rw [show dw p.text x q = false from inB_false.2 (by omega)]; rfl)
            | skip
          refine c6 ?_
          first
          | (refine ⟨(ue, ua, ub, uq), trivial, ?_⟩; rw [t6 hx hq hno, ji (b := false) (F := F) hx hq (by rw [hno]; rfl), ji (b := true) (F := H) hx hq (by rw [hno]; rfl), ny (b := false) (F := F) hx hq hno, ny (b := true) (F := H) hx hq hno]; exact ⟨⟨rfl, rfl⟩, zF, zB, zN, zX⟩)
          | (refine ⟨(ue + 1, xa, ub, xq), trivial, ?_⟩; rw [ri (b := true) (F := H) hx hsn, qp (b := true) (F := H) hx hsn]; exact ⟨⟨rfl, rfl⟩, zF, zB, zN, zX⟩)
          | (refine ⟨(ue + 1, xa, ub + 1, xq), trivial, ?_⟩; rw [ji (b := true) (F := H) hx hq hsx, qo (b := true) (F := H) hx hq hsx]; exact ⟨⟨rfl, rfl⟩, zF, zB, zN, zX⟩)
          | (refine ⟨(ue + 1, xa, ub + 1 + 1, xq + 1), trivial, ⟨⟨rfl, rfl⟩, zF, zB, zN, ?_⟩⟩; refine da zG ?_; refine da zG ?_; refine da zG ?_; refine da zG ?_; refine da zG ?_; refine da zG ?_; refine da zG ?_; rw [← oy (b := true) hx hq hsp hsh, ui]; exact qr (by omega) zG (by intro m o h h1; have := hlt m o h; (try dsimp only); repeat (first | exact h | rw [ct (by omega)])))
        have hfr := of_decide_eq_false hs
        refine aa rfl (bl rfl (by constructor)) ?_
        refine aa rfl (bl rfl (by constructor)) ?_
        refine aa rfl (iy rfl rfl) ?_
        refine aa rfl (c7 rfl rfl) ?_
        try dsimp only [St.put]
        refine bk rfl ((gy rfl rfl zG (by simp) (hc1 _ _))) ?_
        refine aa rfl (ir rfl rfl rfl) ?_
        refine aa rfl (cz rfl rfl (by constructor)) ?_
        refine cv ?_
        dsimp only [St.put]
        refine hK30 _ ?_
        refine aq rfl (fun hc => ?_) (fun hc => ?_)
        · first
            | (have hto := of_decide_eq_true (p := x.to < rg p.text q) hc
               have hno : (dw p.text x q && P i) = false := by
                 rw [show dw p.text x q = false from inB_false.2 (by omega)]; rfl)
            | skip
          refine c6 ?_
          first
          | (refine ⟨(ue, ua, ub, uq), trivial, ?_⟩; rw [t6 hx hq hno, ji (b := false) (F := F) hx hq (by rw [hno]; rfl), ji (b := true) (F := H) hx hq (by rw [hno]; rfl), ny (b := false) (F := F) hx hq hno, ny (b := true) (F := H) hx hq hno]; exact ⟨⟨rfl, rfl⟩, zF, zB, zN, zX⟩)
          | (refine ⟨(ue + 1, xa, ub, xq), trivial, ?_⟩; rw [ri (b := true) (F := H) hx hsn, qp (b := true) (F := H) hx hsn]; exact ⟨⟨rfl, rfl⟩, zF, zB, zN, zX⟩)
          | (refine ⟨(ue + 1, xa, ub + 1, xq), trivial, ?_⟩; rw [ji (b := true) (F := H) hx hq hsx, qo (b := true) (F := H) hx hq hsx]; exact ⟨⟨rfl, rfl⟩, zF, zB, zN, zX⟩)
          | (refine ⟨(ue + 1, xa, ub + 1 + 1, xq + 1), trivial, ⟨⟨rfl, rfl⟩, zF, zB, zN, ?_⟩⟩; refine da zG ?_; refine da zG ?_; refine da zG ?_; refine da zG ?_; refine da zG ?_; refine da zG ?_; refine da zG ?_; rw [← oy (b := true) hx hq hsp hsh, ui]; exact qr (by omega) zG (by intro m o h h1; have := hlt m o h; (try dsimp only); repeat (first | exact h | rw [ct (by omega)])))
        have hto := of_decide_eq_false hc
        have hon : dw p.text x q = true := inB_true.2 ⟨by omega, by omega⟩
        refine ax ?_
        refine hK29 _ ?_
        refine cj fun K31 hK31 => ?_
        refine cj fun K32 hK32 => ?_
        refine cx ?_
        refine aa rfl (bl rfl (by constructor)) ?_
        refine aa rfl (bl rfl (by constructor)) ?_
        refine aa rfl (ra rfl rfl rfl (by omega)) ?_
        refine aa rfl (br rfl rfl rfl (by omega)) ?_
        try dsimp only [St.put]
        refine ae rfl (ba rfl rfl rfl (ucu l (1 + 3 * i) (by omega) hlb (by omega)) ?_)
        refine aa rfl (bl rfl (by constructor)) ?_
        refine aa rfl ((xi (r := jl l (1 + 3 * i) % of) rfl rfl rfl rfl (by have := hcb (1 + 3 * i); omega) (by omega))) ?_
        refine aa rfl (gk rfl rfl rfl) ?_
        refine cv ?_
        dsimp only [St.put]
        refine hK32 _ ?_
        refine aq rfl (fun hc => ?_) (fun hc => ?_)
        · have hno : (dw p.text x q && P i) = false := by
            rw [hP, decide_eq_false (ke hc), Bool.and_false]
          refine c6 ?_
          first
          | (refine ⟨(ue, ua, ub, uq), trivial, ?_⟩; rw [t6 hx hq hno, ji (b := false) (F := F) hx hq (by rw [hno]; rfl), ji (b := true) (F := H) hx hq (by rw [hno]; rfl), ny (b := false) (F := F) hx hq hno, ny (b := true) (F := H) hx hq hno]; exact ⟨⟨rfl, rfl⟩, zF, zB, zN, zX⟩)
          | (refine ⟨(ue + 1, xa, ub, xq), trivial, ?_⟩; rw [ri (b := true) (F := H) hx hsn, qp (b := true) (F := H) hx hsn]; exact ⟨⟨rfl, rfl⟩, zF, zB, zN, zX⟩)
          | (refine ⟨(ue + 1, xa, ub + 1, xq), trivial, ?_⟩; rw [ji (b := true) (F := H) hx hq hsx, qo (b := true) (F := H) hx hq hsx]; exact ⟨⟨rfl, rfl⟩, zF, zB, zN, zX⟩)
          | (refine ⟨(ue + 1, xa, ub + 1 + 1, xq + 1), trivial, ⟨⟨rfl, rfl⟩, zF, zB, zN, ?_⟩⟩; refine da zG ?_; refine da zG ?_; refine da zG ?_; refine da zG ?_; refine da zG ?_; refine da zG ?_; refine da zG ?_; rw [← oy (b := true) hx hq hsp hsh, ui]; exact qr (by omega) zG (by intro m o h h1; have := hlt m o h; (try dsimp only); repeat (first | exact h | rw [ct (by omega)])))
        have hyes : (dw p.text x q && P i) = true := by
          rw [hP, decide_eq_true (i5 hc), hon]; rfl
        refine ax ?_
        refine hK31 _ ?_
        refine cj fun K33 hK33 => ?_
        refine cx ?_
        refine aa rfl (bl rfl (by constructor)) ?_
        refine aa rfl (bl rfl (by constructor)) ?_
        try dsimp only [St.put]
        refine aa rfl ((iq rfl rfl zG rfl rfl hkl)) ?_
        try dsimp only [St.put]
        refine bk rfl ((gy rfl rfl zG (by simp) (uij hkl))) ?_
        refine aa rfl (br rfl rfl rfl (by omega)) ?_
        try dsimp only [St.put]
        refine aa rfl ((iq rfl rfl zG rfl rfl hkl)) ?_
        try dsimp only [St.put]
        refine ae rfl (qe (k := k) (j := 0) (z := fm p P (upN i k) k) (z' := fm p P (upN i k) k + 1) rfl rfl rfl zG rfl rfl (lv (fm p P (upN i k)) hkl) rfl (by decide) rfl ?_)
        refine cv ?_
        dsimp only [St.put]
        rw [usp hx hq hyes]
        refine hK33 _ ?_
        refine cm 99 ?_
        refine zQ ?_
        refine lf (X := Nat × Nat) (fun z => True) (fun z => []) (fun z G' => ((ai (ai (ai (ai (ai (ai (ai (((jb G (nx + 9) ((2 * p.pages.length)) 41 3 ((jt (dv p false P F ((upN i (k + 1)))) (dv p true P H ((upN i k)))))))) ya (.arr va 0 47 2 p.firsts.length (az (p.firsts)))) yb (.arr vb 0 47 2 p.seconds.length (az (p.seconds)))) (nx + 5) (.box 1 [lst p.text, .own ya va p.firsts.length, .own yb vb p.seconds.length, .own yq vq p.pages.length])) (nx + 6) (.arr 0 ((ue + 1)) 3 1 p.pages.length (az ((cc p.pages.length (fm p P ((upN i (k + 1))))))))) ea (.arr 0 z.1 44 2 p.firsts.length (az ((dd p false P F ((upN i (k + 1))) ((upN i (k + 1)))))))) eb (.arr 0 ub 44 2 p.seconds.length (az ((dd p true P H ((upN i k)) ((upN i k))))))) yq (.arr vq z.2 38 6 p.pages.length (((fq p.pages (nx + 9) (dv p false P F ((upN i (k + 1)))) (dv p true P H ((upN i k)))).flatten)))))) rfl ?_ ?_ ?_ ?_
        · rintro ⟨xa, xq⟩ hI
          exact zL
        · rintro ⟨xa, xq⟩ hI
          ((repeat' (refine ka ?_ (by (try dsimp only); omega) ?_)); all_goals (first | exact we (by (try dsimp only); omega) (by intro m o h; have := hlt0 m o h; (try dsimp only); repeat (first | exact h | rw [ct (by omega)] | rw [nz (by omega)] | rw [ki (by omega)])) | exact wu (by (try dsimp only); omega) | exact ww (by (try dsimp only); omega) | (repeat' (first | exact trivial | refine ⟨?_, ?_⟩ | exact .v | exact .any | refine .elem ?_ | exact bv _ _ | exact fy _ _ | exact eu _ _ | exact fg _ (by (try dsimp only); omega) | exact .box (by (try dsimp only); omega) | exact fj | exact dq | refine f9 ?_ ?_ | exact .arr (by (try dsimp only); omega) | exact .own (by (try dsimp only); omega) | exact .map (by (try dsimp only); omega) | exact e8 _ | refine ce ?_ ?_ | exact bv _ _))))
        · refine cj fun K35 hK35 => ?_
          refine cx ?_
          refine aa rfl (bl rfl (by constructor)) ?_
          refine aa rfl (iy rfl rfl) ?_
          refine aa rfl (c7 rfl rfl) ?_
          try dsimp only [St.put]
          refine bk rfl ((gy rfl rfl zG (by simp) (hc2 _ _))) ?_
          refine aa rfl (m6 rfl rfl rfl) ?_
          refine cv ?_
          dsimp only [St.put]
          refine hK35 _ ?_
          refine aq rfl (fun hc => ?_) (fun hc => ?_)
          · have hfp : 0 ≤ cn false x := of_decide_eq_true hc
            obtain ⟨r, hr, hrl⟩ := uf9 hok hx false hfp
            have hrc : ∀ A B, (az (dd p false P F A B))[r * 2 + 0]? = some (.v (.int .i64 (ptE p false P A r))) := fun A B => (yw hrl).1
            have hrc' : ∀ A B, (az (dd p false P F A B))[r * 2 + 1]? = some (.v (.int .i64 (ptH p false P F B r))) := fun A B => (yw hrl).2
            have hbe := zl (b := false) (P := P) hnp hup r
            have hbh := ufx (b := false) (P := P) (F := F) hnp hup r
            have hbl := ucz p false P F (upN i k) hup k
            refine cj fun K36 hK36 => ?_
            refine fw [(0, none), (1, none), (2, none), (3, none), (4, none), (5, none), (6, none), (7, none), (8, none), (9, none), (10, none), (11, none)] (fun i => [11].contains i) (fun i => [11].contains i) (fun i => [0, 1, 2, 3, 5, 6, 8, 9, 10].contains i) [yq, ea] (by kernel_rfl) (by kernel_rfl) ?_
            refine af rfl rfl rfl rfl (bl rfl (by constructor)) ?_
            refine af rfl rfl rfl rfl (bl rfl (by constructor)) ?_
            refine af rfl rfl rfl rfl (iy rfl rfl) ?_
            refine af rfl rfl rfl rfl (c7 rfl rfl) ?_
            try dsimp only [St.put]
            refine aw rfl rfl rfl rfl ((gy rfl rfl zG (by simp) (hc2 _ _))) ?_
            try dsimp only [St.put]
            refine af rfl rfl rfl rfl ((iq rfl rfl zG rfl hr hrl)) ?_
            try dsimp only [St.put]
            refine af rfl rfl rfl rfl ((sf (k := 0) rfl rfl rfl rfl (by decide))) ?_
            try dsimp only [St.put]
            refine aw rfl rfl rfl rfl ((gy rfl rfl zG (by simp) (hrc _ _))) ?_
            refine af rfl rfl rfl rfl (br rfl rfl rfl (by omega)) ?_
            try dsimp only [St.put]
            refine af rfl rfl rfl rfl ((iq rfl rfl zG rfl hr hrl)) ?_
            try dsimp only [St.put]
            refine af rfl rfl rfl rfl ((sf (k := 0) rfl rfl rfl rfl (by decide))) ?_
            refine gu ?_
            try dsimp only [St.put]
            refine f4 rfl rfl rfl rfl (qe (xs := dd p false P F (upN i k) (upN i k)) (k := r) (j := 0) (z := ⟨ptE p false P (upN i k) r, ptH p false P F (upN i k) r⟩) (z' := ⟨ptE p false P (upN i k) r + 1, ptH p false P F (upN i k) r⟩) rfl rfl rfl zG rfl rfl (oo hrl) rfl (by decide) rfl ?_)
            refine gt ?_
            dsimp only [St.put]
            rw [ud8 (b := false) hx hq hr hyes]
            refine hK36 _ ?_
            refine cj fun K37 hK37 => ?_
            refine cx ?_
            refine aa rfl (bl rfl (by constructor)) ?_
            refine aa rfl (bl rfl (by constructor)) ?_
            refine aa rfl (ra rfl rfl rfl (by omega)) ?_
            refine aa rfl (br rfl rfl rfl (by omega)) ?_
            try dsimp only [St.put]
            refine ae rfl (ba rfl rfl rfl (ucu l (2 + 3 * i) (by omega) hlb (by omega)) ?_)
            refine aa rfl ((xi (r := jl l (2 + 3 * i) % 4) rfl rfl rfl rfl (by have := hcb (2 + 3 * i); omega) (by omega))) ?_
            refine aa rfl (ir rfl rfl rfl) ?_
            refine cv ?_
            dsimp only [St.put]
            refine hK37 _ ?_
            refine aq rfl (fun hc => ?_) (fun hc => ?_)
            · have hfh : (dw p.text x q && P i && F i) = true := by
                rw [hyes, hFd, decide_eq_true (of_decide_eq_true (p := 0 < jl l (2 + 3 * i) % 4) hc)]; rfl
              refine cj fun K38 hK38 => ?_
              have hTT := hT4 (dv p false P F (upN i k)) (dv p true P H (upN i k))
              refine fw [(0, none), (1, none), (2, none), (3, none), (4, none), (5, none), (6, none), (7, none), (8, none), (9, none), (10, none)] (fun i => [7, 10].contains i) (fun i => [6, 7, 10].contains i) (fun i => [0, 1, 2, 3, 8, 9].contains i) [yq] (by kernel_rfl) (by kernel_rfl) ?_
              refine af rfl rfl rfl rfl (bl rfl (by constructor)) ?_
              refine af rfl rfl rfl rfl (bl rfl (by constructor)) ?_
              refine af rfl rfl rfl rfl (iy rfl rfl) ?_
              refine af rfl rfl rfl rfl (c7 rfl rfl) ?_
              try dsimp only [St.put]
              refine aw rfl rfl rfl rfl ((gy rfl rfl zG (by simp) (hc4 _ _))) ?_
              try dsimp only [St.put]
              refine aw rfl rfl rfl rfl (dz rfl rfl (Enc.len _)) ?_
              refine gu ?_
              try dsimp only [St.put]
              refine ij rfl rfl rfl (ef rfl rfl rfl (by decide) (by decide) zR (by decide) ⟨zD, ?_⟩)
              try dsimp only [St.put]
              refine f4 rfl rfl rfl rfl (jz ([q]) rfl rfl zG zE rfl rfl zA ?_ zA)
              refine ec rfl rfl rfl rfl (iy rfl rfl) ?_
              refine ec rfl rfl rfl rfl (c7 rfl rfl) ?_
              try dsimp only [St.put]
              refine f4 rfl rfl rfl rfl (uar (c := .list ((dv p false P F (upN i k) k ++ [q]).map cells) (.tip (nx + 9 + 2 * k))) rfl rfl rfl zG rfl (by rw [hfl6]; omega) ?_)
              refine gt ?_
              dsimp only [St.put]
              rw [un4 hx, oy (b := false) hx hq hfp hfh]
              refine hK38 _ ?_
              refine fw [(0, none), (1, none), (2, none), (3, none), (4, none), (5, none), (6, none), (7, none), (8, none), (9, none), (10, none), (11, none)] (fun i => [11].contains i) (fun i => [11].contains i) (fun i => [0, 1, 2, 3, 5, 6, 8, 9, 10].contains i) [yq, ea] (by kernel_rfl) (by kernel_rfl) ?_
              refine af rfl rfl rfl rfl (bl rfl (by constructor)) ?_
              refine af rfl rfl rfl rfl (bl rfl (by constructor)) ?_
              refine af rfl rfl rfl rfl (iy rfl rfl) ?_
              refine af rfl rfl rfl rfl (c7 rfl rfl) ?_
              try dsimp only [St.put]
              refine aw rfl rfl rfl rfl ((gy rfl rfl zG (by simp) (hc2 _ _))) ?_
              try dsimp only [St.put]
              refine af rfl rfl rfl rfl ((iq rfl rfl zG rfl hr hrl)) ?_
              try dsimp only [St.put]
              refine af rfl rfl rfl rfl ((sf (k := 1) rfl rfl rfl rfl (by decide))) ?_
              try dsimp only [St.put]
              refine aw rfl rfl rfl rfl ((gy rfl rfl zG (by simp) (hrc' _ _))) ?_
              refine af rfl rfl rfl rfl (br rfl rfl rfl (by omega)) ?_
              try dsimp only [St.put]
              refine af rfl rfl rfl rfl ((iq rfl rfl zG rfl hr hrl)) ?_
              try dsimp only [St.put]
              refine af rfl rfl rfl rfl ((sf (k := 1) rfl rfl rfl rfl (by decide))) ?_
              refine gu ?_
              try dsimp only [St.put]
              refine f4 rfl rfl rfl rfl (qe (xs := dd p false P F (upN i (k + 1)) (upN i k)) (k := r) (j := 1) (z := ⟨ptE p false P (upN i (k + 1)) r, ptH p false P F (upN i k) r⟩) (z' := ⟨ptE p false P (upN i (k + 1)) r, ptH p false P F (upN i k) r + 1⟩) rfl rfl rfl zG rfl rfl (oo hrl) rfl (by decide) rfl ?_)
              refine gt ?_
              dsimp only [St.put]
              rw [ud7 (b := false) hx hq hr hfp hfh]
              first
              | (refine ⟨(ua, uq), trivial, ?_⟩; rw [ri (b := false) (F := F) hx hfn, qp (b := false) (F := F) hx hfn]; exact ⟨⟨rfl, rfl⟩, zF, zB, zN, zX⟩)
              | (refine ⟨(ua + 1, uq), trivial, ?_⟩; rw [ji (b := false) (F := F) hx hq hfx, qo (b := false) (F := F) hx hq hfx]; exact ⟨⟨rfl, rfl⟩, zF, zB, zN, zX⟩)
              | (refine ⟨(ua + 1 + 1, uq + 1), trivial, ⟨⟨rfl, rfl⟩, zF, zB, zN, ?_⟩⟩; refine da zG ?_; refine da zG ?_; refine da zG ?_; refine da zG ?_; refine da zG ?_; refine da zG ?_; refine da zG ?_; rw [← oy (b := false) hx hq hfp hfh, ubg]; exact qr (by omega) zG (by intro m o h h1; have := hlt m o h; (try dsimp only); repeat (first | exact h | rw [ct (by omega)])))
            have hfx : (dw p.text x q && P i && F i) = false := by
              rw [hFd, decide_eq_false (of_decide_eq_false (p := 0 < jl l (2 + 3 * i) % 4) hc), Bool.and_false]
            refine ax ?_
            first
            | (refine ⟨(ua, uq), trivial, ?_⟩; rw [ri (b := false) (F := F) hx hfn, qp (b := false) (F := F) hx hfn]; exact ⟨⟨rfl, rfl⟩, zF, zB, zN, zX⟩)
            | (refine ⟨(ua + 1, uq), trivial, ?_⟩; rw [ji (b := false) (F := F) hx hq hfx, qo (b := false) (F := F) hx hq hfx]; exact ⟨⟨rfl, rfl⟩, zF, zB, zN, zX⟩)
            | (refine ⟨(ua + 1 + 1, uq + 1), trivial, ⟨⟨rfl, rfl⟩, zF, zB, zN, ?_⟩⟩; refine da zG ?_; refine da zG ?_; refine da zG ?_; refine da zG ?_; refine da zG ?_; refine da zG ?_; refine da zG ?_; rw [← oy (b := false) hx hq hfp hfh, ubg]; exact qr (by omega) zG (by intro m o h h1; have := hlt m o h; (try dsimp only); repeat (first | exact h | rw [ct (by omega)])))
          have hfn : ¬ 0 ≤ cn false x := of_decide_eq_false hc
          refine ax ?_
          first
          | (refine ⟨(ua, uq), trivial, ?_⟩; rw [ri (b := false) (F := F) hx hfn, qp (b := false) (F := F) hx hfn]; exact ⟨⟨rfl, rfl⟩, zF, zB, zN, zX⟩)
          | (refine ⟨(ua + 1, uq), trivial, ?_⟩; rw [ji (b := false) (F := F) hx hq hfx, qo (b := false) (F := F) hx hq hfx]; exact ⟨⟨rfl, rfl⟩, zF, zB, zN, zX⟩)
          | (refine ⟨(ua + 1 + 1, uq + 1), trivial, ⟨⟨rfl, rfl⟩, zF, zB, zN, ?_⟩⟩; refine da zG ?_; refine da zG ?_; refine da zG ?_; refine da zG ?_; refine da zG ?_; refine da zG ?_; refine da zG ?_; rw [← oy (b := false) hx hq hfp hfh, ubg]; exact qr (by omega) zG (by intro m o h h1; have := hlt m o h; (try dsimp only); repeat (first | exact h | rw [ct (by omega)])))
        rintro ⟨xa, xq⟩ hcf
        dsimp only at hcf ⊢
        refine cj fun K39 hK39 => ?_
        refine cx ?_
        refine aa rfl (bl rfl (by constructor)) ?_
        refine aa rfl (iy rfl rfl) ?_
        refine aa rfl (c7 rfl rfl) ?_
        try dsimp only [St.put]
        refine bk rfl ((gy rfl rfl zG (by simp) (hc3 _ _))) ?_
        refine aa rfl (m6 rfl rfl rfl) ?_
        refine cv ?_
        dsimp only [St.put]
        refine hK39 _ ?_
        refine aq rfl (fun hc => ?_) (fun hc => ?_)
        · have hsp : 0 ≤ cn true x := of_decide_eq_true hc
          obtain ⟨s, hr, hrl⟩ := uf9 hok hx true hsp
          have hrc : ∀ A B, (az (dd p true P H A B))[s * 2 + 0]? = some (.v (.int .i64 (ptE p true P A s))) := fun A B => (yw hrl).1
          have hrc' : ∀ A B, (az (dd p true P H A B))[s * 2 + 1]? = some (.v (.int .i64 (ptH p true P H B s))) := fun A B => (yw hrl).2
          have hbe := zl (b := true) (P := P) hnp hup s
          have hbh := ufx (b := true) (P := P) (F := H) hnp hup s
          have hbl := ucz p true P H (upN i k) hup k
          refine cj fun K40 hK40 => ?_
          refine fw [(0, none), (1, none), (2, none), (3, none), (4, none), (5, none), (6, none), (7, none), (8, none), (9, none), (10, none), (11, none)] (fun i => [11].contains i) (fun i => [11].contains i) (fun i => [0, 1, 2, 3, 5, 6, 8, 9, 10].contains i) [yq, eb] (by kernel_rfl) (by kernel_rfl) ?_
          refine af rfl rfl rfl rfl (bl rfl (by constructor)) ?_
          refine af rfl rfl rfl rfl (bl rfl (by constructor)) ?_
          refine af rfl rfl rfl rfl (iy rfl rfl) ?_
          refine af rfl rfl rfl rfl (c7 rfl rfl) ?_
          try dsimp only [St.put]
          refine aw rfl rfl rfl rfl ((gy rfl rfl zG (by simp) (hc3 _ _))) ?_
          try dsimp only [St.put]
          refine af rfl rfl rfl rfl ((iq rfl rfl zG rfl hr hrl)) ?_
          try dsimp only [St.put]
          refine af rfl rfl rfl rfl ((sf (k := 0) rfl rfl rfl rfl (by decide))) ?_
          try dsimp only [St.put]
          refine aw rfl rfl rfl rfl ((gy rfl rfl zG (by simp) (hrc _ _))) ?_
          refine af rfl rfl rfl rfl (br rfl rfl rfl (by omega)) ?_
          try dsimp only [St.put]
          refine af rfl rfl rfl rfl ((iq rfl rfl zG rfl hr hrl)) ?_
          try dsimp only [St.put]
          refine af rfl rfl rfl rfl ((sf (k := 0) rfl rfl rfl rfl (by decide))) ?_
          refine gu ?_
          try dsimp only [St.put]
          refine f4 rfl rfl rfl rfl (qe (xs := dd p true P H (upN i k) (upN i k)) (k := s) (j := 0) (z := ⟨ptE p true P (upN i k) s, ptH p true P H (upN i k) s⟩) (z' := ⟨ptE p true P (upN i k) s + 1, ptH p true P H (upN i k) s⟩) rfl rfl rfl zG rfl rfl (oo hrl) rfl (by decide) rfl ?_)
          refine gt ?_
          dsimp only [St.put]
          rw [ud8 (b := true) hx hq hr hyes]
          refine hK40 _ ?_
          refine cj fun K41 hK41 => ?_
          refine cx ?_
          refine aa rfl (bl rfl (by constructor)) ?_
          refine aa rfl (bl rfl (by constructor)) ?_
          refine aa rfl (ra rfl rfl rfl (by omega)) ?_
          refine aa rfl (br rfl rfl rfl (by omega)) ?_
          try dsimp only [St.put]
          refine ae rfl (ba rfl rfl rfl (ucu l (3 + 3 * i) (by omega) hlb (by omega)) ?_)
          refine aa rfl ((xi (r := jl l (3 + 3 * i) % 3) rfl rfl rfl rfl (by have := hcb (3 + 3 * i); omega) (by omega))) ?_
          refine aa rfl (ir rfl rfl rfl) ?_
          refine cv ?_
          dsimp only [St.put]
          refine hK41 _ ?_
          refine aq rfl (fun hc => ?_) (fun hc => ?_)
          · have hsh : (dw p.text x q && P i && H i) = true := by
              rw [hyes, hH, decide_eq_true (of_decide_eq_true (p := 0 < jl l (3 + 3 * i) % 3) hc)]; rfl
            refine cj fun K42 hK42 => ?_
            have hTT := hT5 (dv p false P F (upN i (k + 1))) (dv p true P H (upN i k))
            refine fw [(0, none), (1, none), (2, none), (3, none), (4, none), (5, none), (6, none), (7, none), (8, none), (9, none), (10, none)] (fun i => [7, 10].contains i) (fun i => [6, 7, 10].contains i) (fun i => [0, 1, 2, 3, 8, 9].contains i) [yq] (by kernel_rfl) (by kernel_rfl) ?_
            refine af rfl rfl rfl rfl (bl rfl (by constructor)) ?_
            refine af rfl rfl rfl rfl (bl rfl (by constructor)) ?_
            refine af rfl rfl rfl rfl (iy rfl rfl) ?_
            refine af rfl rfl rfl rfl (c7 rfl rfl) ?_
            try dsimp only [St.put]
            refine aw rfl rfl rfl rfl ((gy rfl rfl zG (by simp) (hc5 _ _))) ?_
            try dsimp only [St.put]
            refine aw rfl rfl rfl rfl (dz rfl rfl (Enc.len _)) ?_
            refine gu ?_
            try dsimp only [St.put]
            refine ij rfl rfl rfl (ef rfl rfl rfl (by decide) (by decide) zR (by decide) ⟨zD, ?_⟩)
            try dsimp only [St.put]
            refine f4 rfl rfl rfl rfl (jz ([q]) rfl rfl zG zE rfl rfl zA ?_ zA)
            refine ec rfl rfl rfl rfl (iy rfl rfl) ?_
            refine ec rfl rfl rfl rfl (c7 rfl rfl) ?_
            try dsimp only [St.put]
            refine f4 rfl rfl rfl rfl (uar (c := .list ((dv p true P H (upN i k) k ++ [q]).map cells) (.tip (nx + 9 + (2 * k + 1)))) rfl rfl rfl zG rfl (by rw [hfl6]; omega) ?_)
            refine gt ?_
            dsimp only [St.put]
            rw [un3 hx, oy (b := true) hx hq hsp hsh]
            refine hK42 _ ?_
            refine fw [(0, none), (1, none), (2, none), (3, none), (4, none), (5, none), (6, none), (7, none), (8, none), (9, none), (10, none), (11, none)] (fun i => [11].contains i) (fun i => [11].contains i) (fun i => [0, 1, 2, 3, 5, 6, 8, 9, 10].contains i) [yq, eb] (by kernel_rfl) (by kernel_rfl) ?_
            refine af rfl rfl rfl rfl (bl rfl (by constructor)) ?_
            refine af rfl rfl rfl rfl (bl rfl (by constructor)) ?_
            refine af rfl rfl rfl rfl (iy rfl rfl) ?_
            refine af rfl rfl rfl rfl (c7 rfl rfl) ?_
            try dsimp only [St.put]
            refine aw rfl rfl rfl rfl ((gy rfl rfl zG (by simp) (hc3 _ _))) ?_
            try dsimp only [St.put]
            refine af rfl rfl rfl rfl ((iq rfl rfl zG rfl hr hrl)) ?_
            try dsimp only [St.put]
            refine af rfl rfl rfl rfl ((sf (k := 1) rfl rfl rfl rfl (by decide))) ?_
            try dsimp only [St.put]
            refine aw rfl rfl rfl rfl ((gy rfl rfl zG (by simp) (hrc' _ _))) ?_
            refine af rfl rfl rfl rfl (br rfl rfl rfl (by omega)) ?_
            try dsimp only [St.put]
            refine af rfl rfl rfl rfl ((iq rfl rfl zG rfl hr hrl)) ?_
            try dsimp only [St.put]
            refine af rfl rfl rfl rfl ((sf (k := 1) rfl rfl rfl rfl (by decide))) ?_
            refine gu ?_
            try dsimp only [St.put]
            refine f4 rfl rfl rfl rfl (qe (xs := dd p true P H (upN i (k + 1)) (upN i k)) (k := s) (j := 1) (z := ⟨ptE p true P (upN i (k + 1)) s, ptH p true P H (upN i k) s⟩) (z' := ⟨ptE p true P (upN i (k + 1)) s, ptH p true P H (upN i k) s + 1⟩) rfl rfl rfl zG rfl rfl (oo hrl) rfl (by decide) rfl ?_)
            refine gt ?_
            dsimp only [St.put]
            rw [ud7 (b := true) hx hq hr hsp hsh]
            first
            | (refine ⟨(ue, ua, ub, uq), trivial, ?_⟩; rw [t6 hx hq hno, ji (b := false) (F := F) hx hq (by rw [hno]; rfl), ji (b := true) (F := H) hx hq (by rw [hno]; rfl), ny (b := false) (F := F) hx hq hno, ny (b := true) (F := H) hx hq hno]; exact ⟨⟨rfl, rfl⟩, zF, zB, zN, zX⟩)
            | (refine ⟨(ue + 1, xa, ub, xq), trivial, ?_⟩; rw [ri (b := true) (F := H) hx hsn, qp (b := true) (F := H) hx hsn]; exact ⟨⟨rfl, rfl⟩, zF, zB, zN, zX⟩)
            | (refine ⟨(ue + 1, xa, ub + 1, xq), trivial, ?_⟩; rw [ji (b := true) (F := H) hx hq hsx, qo (b := true) (F := H) hx hq hsx]; exact ⟨⟨rfl, rfl⟩, zF, zB, zN, zX⟩)
            | (refine ⟨(ue + 1, xa, ub + 1 + 1, xq + 1), trivial, ⟨⟨rfl, rfl⟩, zF, zB, zN, ?_⟩⟩; refine da zG ?_; refine da zG ?_; refine da zG ?_; refine da zG ?_; refine da zG ?_; refine da zG ?_; refine da zG ?_; rw [← oy (b := true) hx hq hsp hsh, ui]; exact qr (by omega) zG (by intro m o h h1; have := hlt m o h; (try dsimp only); repeat (first | exact h | rw [ct (by omega)])))
          have hsx : (dw p.text x q && P i && H i) = false := by
            rw [hH, decide_eq_false (of_decide_eq_false (p := 0 < jl l (3 + 3 * i) % 3) hc), Bool.and_false]
          refine ax ?_
          first
          | (refine ⟨(ue, ua, ub, uq), trivial, ?_⟩; rw [t6 hx hq hno, ji (b := false) (F := F) hx hq (by rw [hno]; rfl), ji (b := true) (F := H) hx hq (by rw [hno]; rfl), ny (b := false) (F := F) hx hq hno, ny (b := true) (F := H) hx hq hno]; exact ⟨⟨rfl, rfl⟩, zF, zB, zN, zX⟩)
          | (refine ⟨(ue + 1, xa, ub, xq), trivial, ?_⟩; rw [ri (b := true) (F := H) hx hsn, qp (b := true) (F := H) hx hsn]; exact ⟨⟨rfl, rfl⟩, zF, zB, zN, zX⟩)
          | (refine ⟨(ue + 1, xa, ub + 1, xq), trivial, ?_⟩; rw [ji (b := true) (F := H) hx hq hsx, qo (b := true) (F := H) hx hq hsx]; exact ⟨⟨rfl, rfl⟩, zF, zB, zN, zX⟩)
          | (refine ⟨(ue + 1, xa, ub + 1 + 1, xq + 1), trivial, ⟨⟨rfl, rfl⟩, zF, zB, zN, ?_⟩⟩; refine da zG ?_; refine da zG ?_; refine da zG ?_; refine da zG ?_; refine da zG ?_; refine da zG ?_; refine da zG ?_; rw [← oy (b := true) hx hq hsp hsh, ui]; exact qr (by omega) zG (by intro m o h h1; have := hlt m o h; (try dsimp only); repeat (first | exact h | rw [ct (by omega)])))
        have hsn : ¬ 0 ≤ cn true x := of_decide_eq_false hc
        refine ax ?_
        first
        | (refine ⟨(ue, ua, ub, uq), trivial, ?_⟩; rw [t6 hx hq hno, ji (b := false) (F := F) hx hq (by rw [hno]; rfl), ji (b := true) (F := H) hx hq (by rw [hno]; rfl), ny (b := false) (F := F) hx hq hno, ny (b := true) (F := H) hx hq hno]; exact ⟨⟨rfl, rfl⟩, zF, zB, zN, zX⟩)
        | (refine ⟨(ue + 1, xa, ub, xq), trivial, ?_⟩; rw [ri (b := true) (F := H) hx hsn, qp (b := true) (F := H) hx hsn]; exact ⟨⟨rfl, rfl⟩, zF, zB, zN, zX⟩)
        | (refine ⟨(ue + 1, xa, ub + 1, xq), trivial, ?_⟩; rw [ji (b := true) (F := H) hx hq hsx, qo (b := true) (F := H) hx hq hsx]; exact ⟨⟨rfl, rfl⟩, zF, zB, zN, zX⟩)
        | (refine ⟨(ue + 1, xa, ub + 1 + 1, xq + 1), trivial, ⟨⟨rfl, rfl⟩, zF, zB, zN, ?_⟩⟩; refine da zG ?_; refine da zG ?_; refine da zG ?_; refine da zG ?_; refine da zG ?_; refine da zG ?_; refine da zG ?_; rw [← oy (b := true) hx hq hsp hsh, ui]; exact qr (by omega) zG (by intro m o h h1; have := hlt m o h; (try dsimp only); repeat (first | exact h | rw [ct (by omega)])))
      rintro ⟨xe, xa, xb, xq⟩ hcb
      dsimp only at hcb ⊢
      refine cx ?_
      refine aa rfl (br rfl rfl rfl (by omega)) ?_
      refine aa rfl (bl rfl (by constructor)) ?_
      refine cv ?_
      dsimp only [St.put]
      exact ⟨(k + 1, xe, xa, xb, xq), by (dsimp only; omega), by (dsimp only; omega), ⟨⟨rfl, rfl⟩, zF, zB, zN, zX⟩⟩
    replace hc := of_decide_eq_false hc
    obtain rfl : k = p.pages.length := by omega
    refine c6 ?_
    refine hK20 _ ?_
    refine cx ?_
    refine aa rfl (br rfl rfl rfl (by omega)) ?_
    refine aa rfl (bl rfl (by constructor)) ?_
    refine cv ?_
    dsimp only [St.put]
    rw [ui0, ucy, ucy, uea, uea]
    exact ⟨(i + 1, ue, ua, ub, uq), by (dsimp only; omega), by (dsimp only; omega), ⟨⟨rfl, rfl⟩, zF, zB, zN, zX⟩⟩
  replace hc := of_decide_eq_false hc
  obtain rfl : i = (av p.text).length := by omega
  refine ut8 yq (az (p.pages.map (mg p.text P F H (av p.text).length))) zG (un2 (mg p.text P F H (av p.text).length) (fun k x hx => by unfold mg; rw [tv hx, tv hx]; rfl)) ?_
  dsimp only
  rw [uss (fun _ _ => rfl)]
  refine dm (((ai (ai (ai (ai (ai (ai (ai (G) ya (.arr va 0 47 2 p.firsts.length (az (p.firsts)))) yb (.arr vb 0 47 2 p.seconds.length (az (p.seconds)))) (nx + 5) (.box 1 [lst p.text, .own ya va p.firsts.length, .own yb vb p.seconds.length, .own yq vq p.pages.length])) (nx + 6) (.arr 0 ue 3 1 p.pages.length (az ((mw p P))))) ea (.arr 0 ua 44 2 p.firsts.length (az ((dd p false P F (fun _ => (av p.text).length) (fun _ => (av p.text).length)))))) eb (.arr 0 ub 44 2 p.seconds.length (az ((dd p true P H (fun _ => (av p.text).length) (fun _ => (av p.text).length)))))) yq (.arr vq uq 38 6 p.pages.length ((az (p.pages.map (mg p.text P F H (av p.text).length)))))))) ?_ ?_
  · refine da zG ?_
    refine da zG ?_
    refine da zG ?_
    refine da zG ?_
    refine da zG ?_
    refine da zG ?_
    refine da zG ?_
    intro m o h
    have := hlt0 m o h
    dsimp only
    repeat (first | exact h | rw [ct (by omega)] | rw [nz (by omega)])
  dsimp only
  have hlt := hlt0
  refine c6 ?_
  refine hK16 _ ?_
  refine cj fun K43 hK43 => ?_
  refine cj fun K44 hK44 => ?_
  refine cx ?_
  refine aa rfl (bl rfl (by constructor)) ?_
  refine aa rfl (n8 rfl rfl) ?_
  refine aa rfl (bl rfl (by constructor)) ?_
  refine cv ?_
  dsimp only [St.put]
  refine hK44 _ ?_
  refine bf ?_
  refine cm 226 ?_
  refine zQ ?_
  refine dj (X := Nat × Nat) (fun z => z.1 ≤ p.firsts.length) (fun z => p.firsts.length - z.1) (fun z => [(17, .any), (18, .any), (225, .v (.int .i64 (z.1 : Int)))]) (fun z G' => ((ai (ai (ai (ai (ai (ai (ai (G) ya (.arr va z.2 47 2 p.firsts.length (az (((kf p false P F z.1)))))) yb (.arr vb 0 47 2 p.seconds.length (az (p.seconds)))) (nx + 5) (.box 1 [lst p.text, .own ya va p.firsts.length, .own yb vb p.seconds.length, .own yq vq p.pages.length])) (nx + 6) (.arr 0 ue 3 1 p.pages.length (az ((mw p P))))) ea (.arr 0 ua 44 2 p.firsts.length (az ((dd p false P F (fun _ => (av p.text).length) (fun _ => (av p.text).length)))))) eb (.arr 0 ub 44 2 p.seconds.length (az ((dd p true P H (fun _ => (av p.text).length) (fun _ => (av p.text).length)))))) yq (.arr vq uq 38 6 p.pages.length ((az (p.pages.map (mg p.text P F H (av p.text).length)))))))) (0, 0) rfl ?_ ?_ ?_ ?_ ?_ ?_
  · exact Nat.zero_le _
  · exact zF
  · dsimp only
    rw [ug6]
    exact zX
  · rintro ⟨m, W1⟩ hI
    exact zL
  · rintro ⟨m, W1⟩ hI
    exact zH
  rintro ⟨m, W1⟩ hK
  dsimp only at hK ⊢
  refine cj fun K45 hK45 => ?_
  refine cx ?_
  refine aa rfl (ck rfl rfl rfl) ?_
  refine cv ?_
  dsimp only [St.put]
  refine hK45 _ ?_
  refine cj fun K46 hK46 => ?_
  refine aq rfl (fun hc => ?_) (fun hc => ?_)
  · replace hc := of_decide_eq_true hc
    have hml : m < p.firsts.length := by omega
    obtain ⟨r, hr⟩ : ∃ r, (cy p false)[m]? = some r := dl hml
    obtain ⟨a, ha⟩ : ∃ a, l4 p.text P (av p.text).length p.pages false (m : Int) = a := ⟨_, rfl⟩
    obtain ⟨c, hcc⟩ : ∃ c, l3 p.text P F (av p.text).length p.pages false (m : Int) = c := ⟨_, rfl⟩
    have hg2 : (dd p false P F (fun _ => (av p.text).length) (fun _ => (av p.text).length))[m]? = some ⟨(a : Int), (c : Int)⟩ := by rw [oo hml, uo (fun _ _ => rfl), zk (fun _ _ => rfl), ha, hcc]
    have hle : c ≤ a := by rw [← ha, ← hcc]; exact uc7 p.text P F p.pages false (m : Int)
    have hab : a ≤ 1000000 := by
      have h1 := zl (b := false) (P := P) (N := fun _ => (av p.text).length) hnp (fun _ => hal) m
      rw [uo (fun _ _ => rfl), ha] at h1
      omega
    refine ax ?_
    refine hK46 _ ?_
    refine cj fun K47 hK47 => ?_
    refine bf ?_
    refine cj fun K48 hK48 => ?_
    refine cx ?_
    refine aa rfl (bl rfl (by constructor)) ?_
    try dsimp only [St.put]
    refine aa rfl ((iq rfl rfl zG rfl rfl hml)) ?_
    try dsimp only [St.put]
    refine bk rfl ((po (xs := dd p false P F (fun _ => (av p.text).length) (fun _ => (av p.text).length)) rfl rfl zG (by simp) rfl hg2 rfl (by decide))) ?_
    try dsimp only [St.put]
    refine ae rfl (dx rfl ?_)
    refine aa rfl (dp rfl (by constructor)) ?_
    try dsimp only [St.put]
    refine ae rfl (di rfl rfl rfl zG rfl rfl (by rfl) ?_)
    refine cv ?_
    dsimp only [St.put]
    refine hK48 _ ?_
    refine gg (i := 18) rfl zG zC ?_
    dsimp only
    refine fw [(0, none), (1, none), (2, none), (3, none), (4, none), (5, none), (6, none), (7, none)] (fun i => [7].contains i) (fun i => [4, 7].contains i) (fun i => [0, 2, 5, 6].contains i) [nx + 5] (by kernel_rfl) (by kernel_rfl) ?_
    refine af rfl rfl rfl rfl (c7 rfl rfl) ?_
    try dsimp only [St.put]
    refine aw rfl rfl rfl rfl (ez rfl rfl zG (by simp) (by first | rfl | assumption)) ?_
    refine af rfl rfl rfl rfl (bl rfl (by constructor)) ?_
    try dsimp only [St.put]
    refine aw rfl rfl rfl rfl (dz rfl rfl (Enc.len _)) ?_
    refine gu ?_
    try dsimp only [St.put]
    refine ij rfl rfl rfl (ba rfl rfl rfl (ug5 a c hle hab) ⟨zD, ?_⟩)
    try dsimp only [St.put]
    refine ec rfl rfl rfl rfl ((iq rfl rfl zG rfl rfl hml)) ?_
    refine ec rfl rfl rfl rfl (c7 rfl rfl) ?_
    try dsimp only [St.put]
    refine f4 rfl rfl rfl rfl (qe (xs := kf p false P F m) (k := m) (j := 1) (z := r) (z' := ⟨r.id, (ll a c : Int)⟩) rfl rfl rfl zG rfl rfl (ug8 hr) rfl (by decide) rfl ?_)
    refine gt ?_
    dsimp only [St.put]
    rw [← ha, ← hcc, ug7 hr]
    refine hK47 _ ?_
    refine cx ?_
    refine aa rfl (br rfl rfl rfl (by omega)) ?_
    refine aa rfl (bl rfl (by constructor)) ?_
    refine cv ?_
    dsimp only [St.put]
    exact ⟨(m + 1, W1 + 1), by (dsimp only; omega), by (dsimp only; omega), ⟨⟨rfl, rfl⟩, zF, zB, zN, zX⟩⟩
  replace hc := of_decide_eq_false hc
  obtain rfl : m = p.firsts.length := by omega
  rw [show kf p false P F p.firsts.length = _ from ug9 p false P F, show cy p false = p.firsts from rfl]
  refine c6 ?_
  refine hK43 _ ?_
  refine cj fun K49 hK49 => ?_
  refine cj fun K50 hK50 => ?_
  refine cx ?_
  refine aa rfl (bl rfl (by constructor)) ?_
  refine aa rfl (n8 rfl rfl) ?_
  refine aa rfl (bl rfl (by constructor)) ?_
  refine cv ?_
  dsimp only [St.put]
  refine hK50 _ ?_
  refine bf ?_
  refine cm 241 ?_
  refine zQ ?_
  refine dj (X := Nat × Nat) (fun z => z.1 ≤ p.seconds.length) (fun z => p.seconds.length - z.1) (fun z => [(19, .any), (20, .any), (240, .v (.int .i64 (z.1 : Int)))]) (fun z G' => ((ai (ai (ai (ai (ai (ai (ai (G) ya (.arr va W1 47 2 p.firsts.length (az (((mj p.text P F (av p.text).length p.pages false p.firsts)))))) yb (.arr vb z.2 47 2 p.seconds.length (az (((kf p true P H z.1)))))) (nx + 5) (.box 1 [lst p.text, .own ya va p.firsts.length, .own yb vb p.seconds.length, .own yq vq p.pages.length])) (nx + 6) (.arr 0 ue 3 1 p.pages.length (az ((mw p P))))) ea (.arr 0 ua 44 2 p.firsts.length (az ((dd p false P F (fun _ => (av p.text).length) (fun _ => (av p.text).length)))))) eb (.arr 0 ub 44 2 p.seconds.length (az ((dd p true P H (fun _ => (av p.text).length) (fun _ => (av p.text).length)))))) yq (.arr vq uq 38 6 p.pages.length ((az (p.pages.map (mg p.text P F H (av p.text).length)))))))) (0, 0) rfl ?_ ?_ ?_ ?_ ?_ ?_
  · exact Nat.zero_le _
  · exact zF
  · dsimp only
    rw [ug6]
    exact zX
  · rintro ⟨m, W2⟩ hI
    exact zL
  · rintro ⟨m, W2⟩ hI
    exact zH
  rintro ⟨m, W2⟩ hK
  dsimp only at hK ⊢
  refine cj fun K51 hK51 => ?_
  refine cx ?_
  refine aa rfl (ck rfl rfl rfl) ?_
  refine cv ?_
  dsimp only [St.put]
  refine hK51 _ ?_
  refine cj fun K52 hK52 => ?_
  refine aq rfl (fun hc => ?_) (fun hc => ?_)
  · replace hc := of_decide_eq_true hc
    have hml : m < p.seconds.length := by omega
    obtain ⟨r, hr⟩ : ∃ r, (cy p true)[m]? = some r := dl hml
    obtain ⟨a, ha⟩ : ∃ a, l4 p.text P (av p.text).length p.pages true (m : Int) = a := ⟨_, rfl⟩
    obtain ⟨c, hcc⟩ : ∃ c, l3 p.text P H (av p.text).length p.pages true (m : Int) = c := ⟨_, rfl⟩
    have hg2 : (dd p true P H (fun _ => (av p.text).length) (fun _ => (av p.text).length))[m]? = some ⟨(a : Int), (c : Int)⟩ := by rw [oo hml, uo (fun _ _ => rfl), zk (fun _ _ => rfl), ha, hcc]
    have hle : c ≤ a := by rw [← ha, ← hcc]; exact uc7 p.text P H p.pages true (m : Int)
    have hab : a ≤ 1000000 := by
      have h1 := zl (b := true) (P := P) (N := fun _ => (av p.text).length) hnp (fun _ => hal) m
      rw [uo (fun _ _ => rfl), ha] at h1
      omega
    refine ax ?_
    refine hK52 _ ?_
    refine cj fun K53 hK53 => ?_
    refine bf ?_
    refine cj fun K54 hK54 => ?_
    refine cx ?_
    refine aa rfl (bl rfl (by constructor)) ?_
    try dsimp only [St.put]
    refine aa rfl ((iq rfl rfl zG rfl rfl hml)) ?_
    try dsimp only [St.put]
    refine bk rfl ((po (xs := dd p true P H (fun _ => (av p.text).length) (fun _ => (av p.text).length)) rfl rfl zG (by simp) rfl hg2 rfl (by decide))) ?_
    try dsimp only [St.put]
    refine ae rfl (dx rfl ?_)
    refine aa rfl (dp rfl (by constructor)) ?_
    try dsimp only [St.put]
    refine ae rfl (di rfl rfl rfl zG rfl rfl (by rfl) ?_)
    refine cv ?_
    dsimp only [St.put]
    refine hK54 _ ?_
    refine gg (i := 20) rfl zG zC ?_
    dsimp only
    refine fw [(0, none), (1, none), (2, none), (3, none), (4, none), (5, none), (6, none), (7, none)] (fun i => [7].contains i) (fun i => [4, 7].contains i) (fun i => [0, 2, 5, 6].contains i) [nx + 5] (by kernel_rfl) (by kernel_rfl) ?_
    refine af rfl rfl rfl rfl (c7 rfl rfl) ?_
    try dsimp only [St.put]
    refine aw rfl rfl rfl rfl (ez rfl rfl zG (by simp) (by first | rfl | assumption)) ?_
    refine af rfl rfl rfl rfl (bl rfl (by constructor)) ?_
    try dsimp only [St.put]
    refine aw rfl rfl rfl rfl (dz rfl rfl (Enc.len _)) ?_
    refine gu ?_
    try dsimp only [St.put]
    refine ij rfl rfl rfl (ba rfl rfl rfl (ug5 a c hle hab) ⟨zD, ?_⟩)
    try dsimp only [St.put]
    refine ec rfl rfl rfl rfl ((iq rfl rfl zG rfl rfl hml)) ?_
    refine ec rfl rfl rfl rfl (c7 rfl rfl) ?_
    try dsimp only [St.put]
    refine f4 rfl rfl rfl rfl (qe (xs := kf p true P H m) (k := m) (j := 1) (z := r) (z' := ⟨r.id, (ll a c : Int)⟩) rfl rfl rfl zG rfl rfl (ug8 hr) rfl (by decide) rfl ?_)
    refine gt ?_
    dsimp only [St.put]
    rw [← ha, ← hcc, ug7 hr]
    refine hK53 _ ?_
    refine cx ?_
    refine aa rfl (br rfl rfl rfl (by omega)) ?_
    refine aa rfl (bl rfl (by constructor)) ?_
    refine cv ?_
    dsimp only [St.put]
    exact ⟨(m + 1, W2 + 1), by (dsimp only; omega), by (dsimp only; omega), ⟨⟨rfl, rfl⟩, zF, zB, zN, zX⟩⟩
  replace hc := of_decide_eq_false hc
  obtain rfl : m = p.seconds.length := by omega
  rw [show kf p true P H p.seconds.length = _ from ug9 p true P H, show cy p true = p.seconds from rfl]
  refine c6 ?_
  refine hK49 _ ?_
  refine cj fun K55 hK55 => ?_
  refine cj fun K56 hK56 => ?_
  refine vp (nx + 5) 1 (mj p.text P F (av p.text).length p.pages false p.firsts) zG rfl zG (by omega) rfl rfl (z6 _ _ _ _ _ _ _).symm ?_
  refine vp (nx + 5) 2 (mj p.text P H (av p.text).length p.pages true p.seconds) zG rfl zG (by omega) rfl rfl (z6 _ _ _ _ _ _ _).symm ?_
  refine vp (nx + 5) 3 (p.pages.map (mg p.text P F H (av p.text).length)) zG rfl zG (by omega) rfl rfl (by rw [List.length_map]) ?_
  dsimp only [List.set_cons_zero, List.set_cons_succ]
  obtain ⟨q, hq⟩ : ∃ q, kr p P F H = q := ⟨_, rfl⟩
  have hcq : [lst p.text, lst (mj p.text P F (av p.text).length p.pages false p.firsts), lst (mj p.text P H (av p.text).length p.pages true p.seconds), lst (p.pages.map (mg p.text P F H (av p.text).length))] = cells q := by rw [← hq]; rfl
  rw [hcq]
  clear hcq
  refine gg (i := 6) rfl zG (by rw [Ne, ← List.length_eq_zero_iff, Enc.len]; decide) ?_
  dsimp only
  refine cx ?_
  try dsimp only [St.put]
  refine bk rfl (dz rfl rfl (Enc.len _)) ?_
  try dsimp only [St.put]
  refine ae rfl (ba rfl rfl rfl (uhv q) ?_)
  refine aa rfl (ei rfl rfl) ?_
  refine cv ?_
  dsimp only [St.put]
  refine hK56 _ ?_
  refine aq rfl (fun hc => ?_) (fun hc => ?_)
  · skip
    refine cj fun K57 hK57 => ?_
    refine cx ?_
    refine aa rfl (bl rfl (by constructor)) ?_
    refine aa rfl (dp rfl (by constructor)) ?_
    refine cv ?_
    dsimp only [St.put]
    refine hK57 _ ?_
    refine ar ?_
    refine bj rfl (by constructor) zN zS ?_
    rfl
  have hrq : th q = true := by simpa using hc
  have hCq := (readyP_true.1 hrq).2
  obtain ⟨hokq, _⟩ := nk hCq
  have hokT : et (kr p P F H) := hq ▸ hokq
  have hlq : q.pages.length = p.pages.length := by rw [← hq]; exact List.length_map _
  have hsl0 : (cy q false).length = p.firsts.length := by rw [← hq]; exact z6 _ _ _ _ _ _ _
  have hsl1 : (cy q true).length = p.seconds.length := by rw [← hq]; exact z6 _ _ _ _ _ _ _
  have htt : j5 q (mw p P) = true := hq ▸ ul7 hokT
  have hes : (mw p P).length = q.pages.length := by rw [umb, hlq]
  obtain ⟨hTq, hfe, hes2⟩ := uma hokq htt hes
  have hLq : gm q (dc q) = 0 := by rw [hCq, u7, hTq]; rfl
  obtain ⟨y, hy⟩ : ∃ y, (fun j => gi (mw p P) j - fb q j) = y := ⟨_, rfl⟩
  rw [hy] at hfe hes2
  have hnq := hokq.np
  rw [hes2]
  rw [hes2] at htt
  have htm := jq q.pages.length (m9 q y)
  have hsm : ∀ k, k ≤ q.pages.length → 0 ≤ sm k y ∧ sm k y ≤ 6000 := fun k hk => by
    have h1 := uex (g := y) (m := 600) k fun j hj => uir hokq hfe (by omega)
    omega
  have hst := umr hokq hfe
  refine ax ?_
  refine hK55 _ ?_
  refine cj fun K58 hK58 => ?_
  refine cx ?_
  try dsimp only [St.put]
  refine bk rfl (dz rfl rfl (Enc.len _)) ?_
  try dsimp only [St.put]
  refine ae rfl ((fa rfl rfl rfl ((urq 0 q hCq)) zG (by dsimp only [St.put]; omega) ?_))
  refine aa rfl (bl rfl (by constructor)) ?_
  refine aa rfl (m7 rfl rfl rfl) ?_
  refine aa rfl (m7 rfl rfl rfl) ?_
  refine aa rfl (dp rfl (by constructor)) ?_
  refine aa rfl (dp rfl (by constructor)) ?_
  refine cv ?_
  dsimp only [St.put]
  refine hK58 _ ?_
  refine cj fun K59 hK59 => ?_
  refine cj fun K60 hK60 => ?_
  refine cx ?_
  refine aa rfl (bl rfl (by constructor)) ?_
  refine aa rfl (ei rfl rfl) ?_
  refine aa rfl (bl rfl (by constructor)) ?_
  try dsimp only [St.put]
  refine bk rfl (dz rfl rfl (Enc.len _)) ?_
  refine aa rfl (bl rfl (by constructor)) ?_
  try dsimp only [St.put]
  refine ae rfl (us4 (as' := [val q, lst (cc q.pages.length (m9 q y))]) rfl rfl rfl (urn q hokq _ (by omega) htt) ⟨.low (eu _ _), .own _ zG rfl rfl (by omega), trivial⟩ (usd _) ?_)
  refine aa rfl (ei rfl rfl) ?_
  refine aa rfl (cz rfl rfl (by constructor)) ?_
  refine cv ?_
  dsimp only [St.put]
  refine hK60 _ ?_
  refine aq rfl (fun h => by cases h) (fun _ => ?_)
  refine ax ?_
  refine hK59 _ ?_
  refine cj fun K61 hK61 => ?_
  refine cx ?_
  refine aa rfl (dp rfl (by constructor)) ?_
  refine cv ?_
  dsimp only [St.put]
  refine hK61 _ ?_
  refine cj fun K62 hK62 => ?_
  refine cj fun K63 hK63 => ?_
  refine cx ?_
  refine aa rfl (bl rfl (by constructor)) ?_
  refine aa rfl (n8 rfl rfl) ?_
  refine aa rfl (bl rfl (by constructor)) ?_
  refine cv ?_
  dsimp only [St.put]
  refine hK63 _ ?_
  refine bf ?_
  refine cm 273 ?_
  refine zQ ?_
  refine dm ((ai (ai (ai G (nx + 6) (.arr 0 ue 3 1 p.pages.length (az ((cc q.pages.length (m9 q y)))))) ea (.arr 0 ua 44 2 p.firsts.length (az (dd p false P F (fun _ => (av p.text).length) (fun _ => (av p.text).length))))) eb (.arr 0 ub 44 2 p.seconds.length (az (dd p true P H (fun _ => (av p.text).length) (fun _ => (av p.text).length)))))) zX ?_
  dsimp only
  refine dj (X := Nat) (fun k => k ≤ q.pages.length) (fun k => q.pages.length - k) (fun k => [(23, .v (.int .i64 (sm k y))), (24, .any), (25, .any), (26, .any), (27, .any), (272, .v (.int .i64 (k : Int)))]) (fun k G' => G') 0 rfl ?_ ?_ (fun _ _ h => h) ?_ ?_ ?_
  · exact Nat.zero_le _
  · exact zF
  · rintro k hI
    exact zL
  · exact fun _ _ _ _ h => .inl h
  rintro k hI
  dsimp only at hI ⊢
  refine cj fun K64 hK64 => ?_
  refine cx ?_
  refine aa rfl (ck rfl rfl rfl) ?_
  refine cv ?_
  dsimp only [St.put]
  refine hK64 _ ?_
  refine cj fun K65 hK65 => ?_
  refine aq rfl (fun hc => ?_) (fun hc => ?_)
  · replace hc := of_decide_eq_true hc
    have hkl : k < p.pages.length := by omega
    have hkq : k < q.pages.length := by omega
    obtain ⟨x, hx⟩ : ∃ x, q.pages[k]? = some x := dl hkq
    have hal2 := Net.feas_alone (uck hokq) hfe hkq
    have hgt := lv (fb q) hkq
    have hyb := uir hokq hfe hkq
    have htb := umd hokq k
    have hmy : m9 q y k = fb q k + y k := rfl
    have hs1 := hsm k hI
    have hs2 : sm (k + 1) y = sm k y + y k := rfl
    refine ax ?_
    refine hK65 _ ?_
    refine cj fun K66 hK66 => ?_
    refine bf ?_
    refine cj fun K67 hK67 => ?_
    refine cx ?_
    refine aa rfl (bl rfl (by constructor)) ?_
    try dsimp only [St.put]
    refine aa rfl ((iq rfl rfl zG rfl rfl hkl)) ?_
    try dsimp only [St.put]
    refine bk rfl ((gy rfl rfl zG (by simp) (uij hkq))) ?_
    refine aa rfl (dp rfl (by constructor)) ?_
    refine aa rfl (dp rfl (by constructor)) ?_
    refine cv ?_
    dsimp only [St.put]
    refine hK67 _ ?_
    refine cj fun K68 hK68 => ?_
    refine cx ?_
    try dsimp only [St.put]
    refine bk rfl (dz rfl rfl (Enc.len _)) ?_
    refine aa rfl (bl rfl (by constructor)) ?_
    try dsimp only [St.put]
    refine ae rfl ((fa rfl rfl rfl ((urp 0 q hLq hx)) zG (by dsimp only [St.put]; omega) ?_))
    refine aa rfl (bl rfl (by constructor)) ?_
    refine aa rfl (m7 rfl rfl rfl) ?_
    refine aa rfl (m7 rfl rfl rfl) ?_
    try dsimp only [St.put]
    refine ae rfl (dx rfl ?_)
    try dsimp only [St.put]
    refine ae rfl (di rfl rfl rfl zG rfl rfl (by rfl) ?_)
    refine aa rfl (dp rfl (by constructor)) ?_
    refine cv ?_
    dsimp only [St.put]
    refine hK68 _ ?_
    refine gg (i := 26) rfl zG zC ?_
    dsimp only
    refine cj fun K69 hK69 => ?_
    refine cj fun K70 hK70 => ?_
    refine fw [(0, none), (1, none), (2, none), (3, none), (4, none), (5, none), (6, none), (7, none), (8, none), (9, none), (10, none), (11, none), (12, none), (13, none), (14, none), (15, none), (16, none), (17, none), (18, none), (19, none), (20, none), (21, none), (22, none), (23, none)] (fun i => [].contains i) (fun i => [].contains i) (fun i => [0, 1, 2, 3, 4, 5, 6, 8, 9, 11, 12, 13, 14, 15, 16, 17, 19, 20, 22, 23].contains i) [] (by kernel_rfl) (by kernel_rfl) ?_
    refine af rfl rfl rfl rfl (bl rfl (by constructor)) ?_
    refine af rfl rfl rfl rfl ((fu (c := false) (gk rfl rfl rfl) (zx rfl))) ?_
    refine af rfl rfl rfl rfl (bl rfl (by constructor)) ?_
    refine af rfl rfl rfl rfl (bl rfl (by constructor)) ?_
    refine af rfl rfl rfl rfl (bl rfl (by constructor)) ?_
    refine af rfl rfl rfl rfl (bl rfl (by constructor)) ?_
    try dsimp only [St.put]
    refine af rfl rfl rfl rfl ((bw rfl rfl rfl (by omega) (bu hgt) (Enc.len _))) ?_
    try dsimp only [St.put]
    refine aw rfl rfl rfl rfl (ca rfl rfl) ?_
    refine af rfl rfl rfl rfl (gr rfl rfl rfl (by omega)) ?_
    refine af rfl rfl rfl rfl (cp rfl rfl rfl) ?_
    try dsimp only [St.put]
    refine aw rfl rfl rfl rfl (ca rfl rfl) ?_
    refine af rfl rfl rfl rfl ((fu (c := false) (ck rfl rfl rfl) (decide_eq_false (by omega)))) ?_
    refine af rfl rfl rfl rfl (cz rfl rfl (by constructor)) ?_
    refine af rfl rfl rfl rfl (bl rfl (by constructor)) ?_
    refine af rfl rfl rfl rfl (bl rfl (by constructor)) ?_
    refine af rfl rfl rfl rfl (bl rfl (by constructor)) ?_
    refine af rfl rfl rfl rfl (bl rfl (by constructor)) ?_
    try dsimp only [St.put]
    refine af rfl rfl rfl rfl ((bw rfl rfl rfl (by omega) (bu hgt) (Enc.len _))) ?_
    try dsimp only [St.put]
    refine aw rfl rfl rfl rfl (ca rfl rfl) ?_
    refine af rfl rfl rfl rfl (gr rfl rfl rfl (by omega)) ?_
    refine af rfl rfl rfl rfl (cp rfl rfl rfl) ?_
    try dsimp only [St.put]
    refine aw rfl rfl rfl rfl (ca rfl rfl) ?_
    refine af rfl rfl rfl rfl ((fu (c := false) (ir rfl rfl rfl) (decide_eq_false (by omega)))) ?_
    refine af rfl rfl rfl rfl (cz rfl rfl (by constructor)) ?_
    refine cw ?_
    dsimp only [St.put]
    refine hK70 _ ?_
    refine aq rfl (fun h => by cases h) (fun _ => ?_)
    refine ax ?_
    refine hK69 _ ?_
    refine cx ?_
    refine aa rfl (bl rfl (by constructor)) ?_
    refine aa rfl (bl rfl (by constructor)) ?_
    refine aa rfl (bl rfl (by constructor)) ?_
    refine aa rfl (bl rfl (by constructor)) ?_
    try dsimp only [St.put]
    refine aa rfl ((bw rfl rfl rfl (by omega) (bu hgt) (Enc.len _))) ?_
    try dsimp only [St.put]
    refine bk rfl (ca rfl rfl) ?_
    refine aa rfl (gr rfl rfl rfl (by omega)) ?_
    refine aa rfl (br rfl rfl rfl (by omega)) ?_
    refine aa rfl (dp rfl (by constructor)) ?_
    refine cv ?_
    dsimp only [St.put]
    rw [show sm k y + (m9 q y k - fb q k) = sm (k + 1) y by omega]
    refine hK66 _ ?_
    refine cx ?_
    refine aa rfl (br rfl rfl rfl (by omega)) ?_
    refine aa rfl (bl rfl (by constructor)) ?_
    refine cv ?_
    dsimp only [St.put]
    exact ⟨k + 1, by omega, by omega, ⟨⟨rfl, rfl⟩, zF, zB, zN, zX⟩⟩
  replace hc := of_decide_eq_false hc
  obtain rfl : k = q.pages.length := by omega
  have hs1 := hsm q.pages.length (Nat.le_refl _)
  refine c6 ?_
  refine hK62 _ ?_
  refine cj fun K71 hK71 => ?_
  refine cx ?_
  try dsimp only [St.put]
  refine bk rfl (dz rfl rfl (Enc.len _)) ?_
  try dsimp only [St.put]
  refine ae rfl ((fa rfl rfl rfl ((uro 0 q hLq)) zG (by dsimp only [St.put]; omega) ?_))
  refine aa rfl (bl rfl (by constructor)) ?_
  refine aa rfl (m7 rfl rfl rfl) ?_
  refine aa rfl (m7 rfl rfl rfl) ?_
  try dsimp only [St.put]
  refine ae rfl (dx rfl ?_)
  try dsimp only [St.put]
  refine ae rfl (di rfl rfl rfl zG rfl rfl (by rfl) ?_)
  refine aa rfl (dp rfl (by constructor)) ?_
  refine cv ?_
  dsimp only [St.put]
  refine hK71 _ ?_
  refine gg (i := 28) rfl zG zC ?_
  dsimp only
  refine cj fun K72 hK72 => ?_
  refine cj fun K73 hK73 => ?_
  refine cx ?_
  refine aa rfl (bl rfl (by constructor)) ?_
  refine aa rfl (n8 rfl rfl) ?_
  refine aa rfl (bl rfl (by constructor)) ?_
  refine cv ?_
  dsimp only [St.put]
  refine hK73 _ ?_
  refine bf ?_
  refine cm 324 ?_
  refine zQ ?_
  refine dm ((ai (ai (ai G (nx + 6) (.arr 0 ue 3 1 p.pages.length (az ((cc q.pages.length (m9 q y)))))) ea (.arr 0 ua 44 2 p.firsts.length (az (dd p false P F (fun _ => (av p.text).length) (fun _ => (av p.text).length))))) eb (.arr 0 ub 44 2 p.seconds.length (az (dd p true P H (fun _ => (av p.text).length) (fun _ => (av p.text).length)))))) zX ?_
  dsimp only
  refine dj (X := Nat) (fun m => m ≤ p.firsts.length) (fun m => p.firsts.length - m) (fun m => [(30, .any), (31, .any), (32, .any), (33, .any), (323, .v (.int .i64 (m : Int)))]) (fun m G' => G') 0 rfl ?_ ?_ (fun _ _ h => h) ?_ ?_ ?_
  · exact Nat.zero_le _
  · exact zF
  · rintro m hI
    exact zL
  · exact fun _ _ _ _ h => .inl h
  rintro m hI
  dsimp only at hI ⊢
  refine cj fun K74 hK74 => ?_
  refine cx ?_
  refine aa rfl (ck rfl rfl rfl) ?_
  refine cv ?_
  dsimp only [St.put]
  refine hK74 _ ?_
  refine cj fun K75 hK75 => ?_
  refine aq rfl (fun hc => ?_) (fun hc => ?_)
  · replace hc := of_decide_eq_true hc
    have hml : m < p.firsts.length := by omega
    obtain ⟨a, ha⟩ : ∃ a, l4 p.text P (av p.text).length p.pages false (m : Int) = a := ⟨_, rfl⟩
    obtain ⟨c, hcc⟩ : ∃ c, l3 p.text P F (av p.text).length p.pages false (m : Int) = c := ⟨_, rfl⟩
    have hg2 : (dd p false P F (fun _ => (av p.text).length) (fun _ => (av p.text).length))[m]? = some ⟨(a : Int), (c : Int)⟩ := by rw [oo hml, uo (fun _ _ => rfl), zk (fun _ _ => rfl), ha, hcc]
    have hbd : (a : Int) ≤ je q false m := by
      have h1 := ube hokT false (i := m) hml
      rw [ha, hq] at h1
      exact h1
    have hml2 : m < (cy q false).length := by rw [hsl0]; exact hml
    refine ax ?_
    refine hK75 _ ?_
    refine cj fun K76 hK76 => ?_
    refine bf ?_
    refine cj fun K77 hK77 => ?_
    refine cx ?_
    refine aa rfl (bl rfl (by constructor)) ?_
    try dsimp only [St.put]
    refine aa rfl ((iq rfl rfl zG rfl rfl hml)) ?_
    try dsimp only [St.put]
    refine bk rfl ((po (xs := dd p false P F (fun _ => (av p.text).length) (fun _ => (av p.text).length)) rfl rfl zG (by simp) rfl hg2 rfl (by decide))) ?_
    try dsimp only [St.put]
    refine ae rfl (dx rfl ?_)
    refine aa rfl (dp rfl (by constructor)) ?_
    try dsimp only [St.put]
    refine ae rfl (di rfl rfl rfl zG rfl rfl (by rfl) ?_)
    refine cv ?_
    dsimp only [St.put]
    refine hK77 _ ?_
    refine gg (i := 31) rfl zG zC ?_
    dsimp only
    refine cj fun K78 hK78 => ?_
    refine cx ?_
    try dsimp only [St.put]
    refine bk rfl (dz rfl rfl (Enc.len _)) ?_
    refine aa rfl (bl rfl (by constructor)) ?_
    try dsimp only [St.put]
    refine ae rfl ((fa rfl rfl rfl ((uhx 0 q false hCq hml2)) zG (by dsimp only [St.put]; omega) ?_))
    refine aa rfl (bl rfl (by constructor)) ?_
    refine aa rfl (m7 rfl rfl rfl) ?_
    refine aa rfl (m7 rfl rfl rfl) ?_
    refine aa rfl (dp rfl (by constructor)) ?_
    refine aa rfl (dp rfl (by constructor)) ?_
    refine cv ?_
    dsimp only [St.put]
    refine hK78 _ ?_
    refine cj fun K79 hK79 => ?_
    refine cx ?_
    refine aa rfl (bl rfl (by constructor)) ?_
    refine aa rfl ((fu (c := false) (gk rfl rfl rfl) (zx rfl))) ?_
    refine aa rfl (bl rfl (by constructor)) ?_
    refine aa rfl (bl rfl (by constructor)) ?_
    try dsimp only [St.put]
    refine aa rfl (tp (k := 0) rfl rfl rfl (by first | exact rfl | omega) (by first | decide | omega) rfl) ?_
    try dsimp only [St.put]
    refine bk rfl (ca rfl rfl) ?_
    refine aa rfl ((fu (c := false) (ck rfl rfl rfl) (decide_eq_false (by omega)))) ?_
    refine aa rfl (cz rfl rfl (by constructor)) ?_
    refine cv ?_
    dsimp only [St.put]
    refine hK79 _ ?_
    refine aq rfl (fun h => by cases h) (fun _ => ?_)
    refine ax ?_
    refine hK76 _ ?_
    refine cx ?_
    refine aa rfl (br rfl rfl rfl (by omega)) ?_
    refine aa rfl (bl rfl (by constructor)) ?_
    refine cv ?_
    dsimp only [St.put]
    exact ⟨m + 1, by omega, by omega, ⟨⟨rfl, rfl⟩, zF, zB, zN, zX⟩⟩
  skip
  refine c6 ?_
  refine hK72 _ ?_
  refine cj fun K80 hK80 => ?_
  refine cj fun K81 hK81 => ?_
  refine cx ?_
  refine aa rfl (bl rfl (by constructor)) ?_
  refine aa rfl (n8 rfl rfl) ?_
  refine aa rfl (bl rfl (by constructor)) ?_
  refine cv ?_
  dsimp only [St.put]
  refine hK81 _ ?_
  refine bf ?_
  refine cm 346 ?_
  refine zQ ?_
  refine dm ((ai (ai (ai G (nx + 6) (.arr 0 ue 3 1 p.pages.length (az ((cc q.pages.length (m9 q y)))))) ea (.arr 0 ua 44 2 p.firsts.length (az (dd p false P F (fun _ => (av p.text).length) (fun _ => (av p.text).length))))) eb (.arr 0 ub 44 2 p.seconds.length (az (dd p true P H (fun _ => (av p.text).length) (fun _ => (av p.text).length)))))) zX ?_
  dsimp only
  refine dj (X := Nat) (fun m => m ≤ p.seconds.length) (fun m => p.seconds.length - m) (fun m => [(34, .any), (35, .any), (36, .any), (37, .any), (345, .v (.int .i64 (m : Int)))]) (fun m G' => G') 0 rfl ?_ ?_ (fun _ _ h => h) ?_ ?_ ?_
  · exact Nat.zero_le _
  · exact zF
  · rintro m hI
    exact zL
  · exact fun _ _ _ _ h => .inl h
  rintro m hI
  dsimp only at hI ⊢
  refine cj fun K82 hK82 => ?_
  refine cx ?_
  refine aa rfl (ck rfl rfl rfl) ?_
  refine cv ?_
  dsimp only [St.put]
  refine hK82 _ ?_
  refine cj fun K83 hK83 => ?_
  refine aq rfl (fun hc => ?_) (fun hc => ?_)
  · replace hc := of_decide_eq_true hc
    have hml : m < p.seconds.length := by omega
    obtain ⟨a, ha⟩ : ∃ a, l4 p.text P (av p.text).length p.pages true (m : Int) = a := ⟨_, rfl⟩
    obtain ⟨c, hcc⟩ : ∃ c, l3 p.text P H (av p.text).length p.pages true (m : Int) = c := ⟨_, rfl⟩
    have hg2 : (dd p true P H (fun _ => (av p.text).length) (fun _ => (av p.text).length))[m]? = some ⟨(a : Int), (c : Int)⟩ := by rw [oo hml, uo (fun _ _ => rfl), zk (fun _ _ => rfl), ha, hcc]
    have hbd : (a : Int) ≤ je q true m := by
      have h1 := ube hokT true (i := m) hml
      rw [ha, hq] at h1
      exact h1
    have hml2 : m < (cy q true).length := by rw [hsl1]; exact hml
    refine ax ?_
    refine hK83 _ ?_
    refine cj fun K84 hK84 => ?_
    refine bf ?_
    refine cj fun K85 hK85 => ?_
    refine cx ?_
    refine aa rfl (bl rfl (by constructor)) ?_
    try dsimp only [St.put]
    refine aa rfl ((iq rfl rfl zG rfl rfl hml)) ?_
    try dsimp only [St.put]
    refine bk rfl ((po (xs := dd p true P H (fun _ => (av p.text).length) (fun _ => (av p.text).length)) rfl rfl zG (by simp) rfl hg2 rfl (by decide))) ?_
    try dsimp only [St.put]
    refine ae rfl (dx rfl ?_)
    refine aa rfl (dp rfl (by constructor)) ?_
    try dsimp only [St.put]
    refine ae rfl (di rfl rfl rfl zG rfl rfl (by rfl) ?_)
    refine cv ?_
    dsimp only [St.put]
    refine hK85 _ ?_
    refine gg (i := 35) rfl zG zC ?_
    dsimp only
    refine cj fun K86 hK86 => ?_
    refine cx ?_
    try dsimp only [St.put]
    refine bk rfl (dz rfl rfl (Enc.len _)) ?_
    refine aa rfl (bl rfl (by constructor)) ?_
    try dsimp only [St.put]
    refine ae rfl ((fa rfl rfl rfl ((uhx 0 q true hCq hml2)) zG (by dsimp only [St.put]; omega) ?_))
    refine aa rfl (bl rfl (by constructor)) ?_
    refine aa rfl (m7 rfl rfl rfl) ?_
    refine aa rfl (m7 rfl rfl rfl) ?_
    refine aa rfl (dp rfl (by constructor)) ?_
    refine aa rfl (dp rfl (by constructor)) ?_
    refine cv ?_
    dsimp only [St.put]
    refine hK86 _ ?_
    refine cj fun K87 hK87 => ?_
    refine cx ?_
    refine aa rfl (bl rfl (by constructor)) ?_
    refine aa rfl ((fu (c := false) (gk rfl rfl rfl) (zx rfl))) ?_
    refine aa rfl (bl rfl (by constructor)) ?_
    refine aa rfl (bl rfl (by constructor)) ?_
    try dsimp only [St.put]
    refine aa rfl (tp (k := 0) rfl rfl rfl (by first | exact rfl | omega) (by first | decide | omega) rfl) ?_
    try dsimp only [St.put]
    refine bk rfl (ca rfl rfl) ?_
    refine aa rfl ((fu (c := false) (ck rfl rfl rfl) (decide_eq_false (by omega)))) ?_
    refine aa rfl (cz rfl rfl (by constructor)) ?_
    refine cv ?_
    dsimp only [St.put]
    refine hK87 _ ?_
    refine aq rfl (fun h => by cases h) (fun _ => ?_)
    refine ax ?_
    refine hK84 _ ?_
    refine cx ?_
    refine aa rfl (br rfl rfl rfl (by omega)) ?_
    refine aa rfl (bl rfl (by constructor)) ?_
    refine cv ?_
    dsimp only [St.put]
    exact ⟨m + 1, by omega, by omega, ⟨⟨rfl, rfl⟩, zF, zB, zN, zX⟩⟩
  skip
  refine c6 ?_
  refine hK80 _ ?_
  refine cj fun K88 hK88 => ?_
  refine cx ?_
  refine aa rfl (bl rfl (by constructor)) ?_
  refine aa rfl (bl rfl (by constructor)) ?_
  refine aa rfl (bl rfl (by constructor)) ?_
  refine aa rfl ((fu (c := true) (gl rfl rfl rfl) (decide_eq_true rfl))) ?_
  refine aa rfl (ci rfl rfl (by constructor)) ?_
  refine aa rfl (bl rfl (by constructor)) ?_
  refine aa rfl (bl rfl (by constructor)) ?_
  refine aa rfl (cp rfl rfl rfl) ?_
  try dsimp only [St.put]
  refine bk rfl (ca rfl rfl) ?_
  refine aa rfl ((fu (c := true) (m6 rfl rfl rfl) (decide_eq_true (by omega)))) ?_
  refine aa rfl (ci rfl rfl (by constructor)) ?_
  refine aa rfl (bl rfl (by constructor)) ?_
  refine aa rfl (bl rfl (by constructor)) ?_
  refine aa rfl (cp rfl rfl rfl) ?_
  try dsimp only [St.put]
  refine bk rfl (ca rfl rfl) ?_
  refine aa rfl ((fu (c := true) (uw rfl rfl rfl) (decide_eq_true hst))) ?_
  refine aa rfl (ci rfl rfl (by constructor)) ?_
  refine aa rfl (dp rfl (by constructor)) ?_
  refine cv ?_
  dsimp only [St.put]
  refine hK88 _ ?_
  refine ar ?_
  refine bj rfl (by constructor) zN zS ?_
  rfl
end Go.Proofs.YtgffhbbcpgdjjaaGreatDoor
namespace Go.AB
open Go Go.RowKit Go.ChangeShapes Go.WideShapes
section
variable {H : Type} {enc : TypeId × Value → H} {P : Program} {w : World} {base : Nat} {spare : Nat → Bool} {held : Bool}
end
end Go.AB

/-
  What the walks through the program rest on: values, states, steps, calls (QkRef, PmMore, QlPlain, AbZero, AbGrow, AbCutN, QmRef, RhProves, AbInv, AbMixD, AbInvD, RcAny, AbNew, AbEntry, HdKeys, RcAdd, RiWithout, AbFact).
-/
import Derived.Test.YtgffhbbcpgdjjaaDoorPartC
import Derived.Test.YtgffhbbcpgdjjaaDoorPartB
import Derived.WideKeyEntry
import Derived.Test.YtgffhbbcpgdjjaaDoorPartA
namespace Go.Proofs.YtgffhbbcpgdjjaaDoor
set_option maxRecDepth 10000
open Go.RowKit Go.AB
open Go.AB.Enc (cells)
open Go.PB (ay ak PlaceD bi bk bj bz av aq cy cx dp dm)
theorem uh8 (a b : List Int) (ha : a.length ≤ 1000) (hb : b.length ≤ 1000) : Pure Tryd.prog 56 [lst a, lst b] (.v (.bool (gx a b))) := by
 refine cz Tryd.func56 rfl (fun m => .v) fun G nx => ?_
 simp only [Tryd.ntmps56, List.length_cons, List.length_nil, Nat.reduceAdd, Nat.reduceSub]
 refine ci fun hlt => ?_
 dsimp only at hlt
 refine yS fun _ K1 => ?_
 refine yR ?_
 refine yA rfl rfl ?_
 refine yN ?_
 dsimp only [St.put]
 refine K1 _ ?_
 refine yS fun _ K2 => ?_
 refine yS fun _ K3 => ?_
 refine yR ?_
 refine yM rfl rfl ?_
 refine aa rfl (ba rfl rfl (List.length_map _)) ?_
 refine yM rfl rfl ?_
 refine aa rfl (ba rfl rfl (List.length_map _)) ?_
 refine aa rfl (i0 rfl rfl rfl) ?_
 refine yN ?_
 dsimp only [St.put]
 refine K3 _ ?_
 refine ar rfl (fun hc => ?_) (fun hc => ?_)
 ·have hl : ¬ a.length = b.length := by
   have := ka hc
   omega
  refine yS fun _ K4 => ?_
  refine yR ?_
  refine yM rfl rfl ?_
  refine aa rfl (ba rfl rfl (List.length_map _)) ?_
  refine yM rfl rfl ?_
  refine aa rfl (ba rfl rfl (List.length_map _)) ?_
  refine aa rfl (cj rfl rfl rfl) ?_
  refine yA rfl rfl ?_
  refine yN ?_
  dsimp only [St.put]
  refine K4 _ ?_
  refine aw ?_
  refine bg rfl (by constructor) zN zS ?_
  exact vb (by simp [gx, hl])
 have hl : a.length = b.length := by
  have := jd hc
  omega
 refine ax ?_
 refine K2 _ ?_
 refine yS fun _ K5 => ?_
 refine yS fun _ K6 => ?_
 refine yR ?_
 refine yA rfl rfl ?_
 refine yN ?_
 dsimp only [St.put]
 refine K6 _ ?_
 refine az ?_
 refine ck 6 ?_
 refine zQ ?_
 refine c6 (G) zX ?_
 dsimp only
 refine c5 (X := Nat) (fun k => k ≤ a.length ∧ a.take k = b.take k) (fun k => a.length - k) (fun k => [(5, .v (.int .i64 (k : Int)))]) (fun k G' => G') 0 rfl ?_ ?_ (fun _ _ h => h) ?_ ?_ ?_
 ·exact ⟨Nat.zero_le _, by simp⟩
 ·exact zF
 ·rintro k hI
  exact zL
 ·exact fun _ _ _ _ h => .inl h
 rintro k hI
 dsimp only at hI ⊢
 refine yS fun _ K7 => ?_
 refine yS fun _ K8 => ?_
 refine yR ?_
 refine yM rfl rfl ?_
 refine yM rfl rfl ?_
 refine aa rfl (ba rfl rfl (List.length_map _)) ?_
 refine aa rfl (cj rfl rfl rfl) ?_
 refine yN ?_
 dsimp only [St.put]
 refine K8 _ ?_
 refine ar rfl (fun hc => ?_) (fun hc => ?_)
 ·replace hc := of_decide_eq_true hc
  obtain ⟨x, hx⟩ : ∃ x, a[k]? = some x := da (by omega)
  obtain ⟨y, hy⟩ : ∃ y, b[k]? = some y := da (by omega)
  refine ax ?_
  refine K7 _ ?_
  refine yS fun _ K9 => ?_
  refine az ?_
  refine yS fun _ K10 => ?_
  refine fm [(0, none), (1, none), (2, none), (3, none), (4, none), (5, none), (6, none), (7, none), (8, none)] (fun i => [].contains i) (fun i => [].contains i) (fun i => [0, 1, 2, 4, 5, 6, 8].contains i) [] (by kernel_rfl) (by kernel_rfl) ?_
  refine xM rfl rfl rfl rfl rfl ?_
  refine xM rfl rfl rfl rfl rfl ?_
  try dsimp only [St.put]
  refine ae rfl rfl rfl rfl (bn rfl rfl rfl rfl (bp (by assumption)) (Enc.len _)) ?_
  try dsimp only [St.put]
  refine ah rfl rfl rfl rfl (bf rfl rfl) ?_
  refine xM rfl rfl rfl rfl rfl ?_
  refine xM rfl rfl rfl rfl rfl ?_
  try dsimp only [St.put]
  refine ae rfl rfl rfl rfl (bn rfl rfl rfl rfl (bp (by assumption)) (Enc.len _)) ?_
  try dsimp only [St.put]
  refine ah rfl rfl rfl rfl (bf rfl rfl) ?_
  refine ae rfl rfl rfl rfl (i0 rfl rfl rfl) ?_
  refine cc ?_
  dsimp only [St.put]
  refine K10 _ ?_
  refine ar rfl (fun hc => ?_) (fun hc => ?_)
  ·have hxy : x ≠ y := ka hc
   refine yS fun _ K11 => ?_
   refine fm [(0, none), (1, none), (2, none), (3, none), (4, none), (5, none), (6, none), (7, none), (8, none), (9, none)] (fun i => [].contains i) (fun i => [].contains i) (fun i => [0, 1, 2, 4, 5, 6, 8, 9].contains i) [] (by kernel_rfl) (by kernel_rfl) ?_
   refine xM rfl rfl rfl rfl rfl ?_
   refine xM rfl rfl rfl rfl rfl ?_
   try dsimp only [St.put]
   refine ae rfl rfl rfl rfl (bn rfl rfl rfl rfl (bp (by assumption)) (Enc.len _)) ?_
   try dsimp only [St.put]
   refine ah rfl rfl rfl rfl (bf rfl rfl) ?_
   refine xM rfl rfl rfl rfl rfl ?_
   refine xM rfl rfl rfl rfl rfl ?_
   try dsimp only [St.put]
   refine ae rfl rfl rfl rfl (bn rfl rfl rfl rfl (bp (by assumption)) (Enc.len _)) ?_
   try dsimp only [St.put]
   refine ah rfl rfl rfl rfl (bf rfl rfl) ?_
   refine ae rfl rfl rfl rfl (cj rfl rfl rfl) ?_
   refine ae rfl rfl rfl rfl (du rfl (by constructor)) ?_
   refine cc ?_
   dsimp only [St.put]
   refine K11 _ ?_
   refine aw ?_
   refine bg rfl (by constructor) zN zS ?_
   exact vb (by rw [umd hl, decide_eq_decide]; exact (ucm hI.2 hx hy hxy).symm)
  have hxy : x = y := jd hc
  refine ax ?_
  refine K9 _ ?_
  refine yR ?_
  refine yM rfl rfl ?_
  refine aa rfl (bu rfl rfl rfl (by omega)) ?_
  refine yA rfl rfl ?_
  refine yN ?_
  dsimp only [St.put]
  exact ⟨k + 1, by omega, ⟨by omega, qk hI.2 hx (hxy ▸ hy)⟩, ⟨⟨rfl, rfl⟩, zF, zB, zN, zX⟩⟩
 replace hc := of_decide_eq_false hc
 refine cw ?_
 refine K5 _ ?_
 refine yS fun _ K12 => ?_
 refine yR ?_
 refine yA rfl rfl ?_
 refine yN ?_
 dsimp only [St.put]
 refine K12 _ ?_
 refine aw ?_
 refine bg rfl (by constructor) zN zS ?_
 exact vb (by
  have h1 := hI.2
  rw [ff (by omega), ff (by omega)] at h1
  rw [h1, zl])
end Go.Proofs.YtgffhbbcpgdjjaaDoor
namespace Go.AB
open Go Go.RowKit
open Go.AB.Enc (cells)
open Go.PB (ay ak PlaceD bi bk bj bz av aq cy cx)
/-! ### First and second readers change their places -/
/-! ### Errors that are missed -/
end Go.AB
namespace Go.AB
open Go Go.RowKit
open Go.AB.Enc (cells)
open Go.PB (ay ak PlaceD bi bk bj bz av aq cy cx dp dm)
def jk (R : Nat → Int) (n : Int) (l : List Int) : Nat → Int := l.foldl (fun R z => fun i => bif decide (i = z.toNat) then R z.toNat - n else R i) R
theorem uaj (R : Nat → Int) (n : Int) : jk R n [] = R := rfl
theorem uai {R : Nat → Int} {n : Int} {l : List Int} {k : Nat} {z : Int} (h : l[k]? = some z) : jk R n (l.take (k + 1)) = fun i => bif decide (i = z.toNat) then jk R n (l.take k) z.toNat - n else jk R n (l.take k) i := by
 unfold jk; rw [List.take_add_one, h, Option.toList_some, List.foldl_append]; rfl
theorem ucs {p : aq} (h : f5 p) {j : Nat} {x : av} (hx : p.pages[j]? = some x) (R : Nat → Int) (n : Int) : (eu p).lessR R j n = jk R n (di p x) := by
 have hp := pageB_true.1 (h.page j x hx)
 have h1 := hp.fst
 have h2 := hp.snd
 funext i
 simp only [Net.lessR, Net.by, eu, hx, di, jk]
 by_cases q1 : 0 ≤ x.fst <;> by_cases q2 : 0 ≤ x.snd
 ·have e2 : ((p.firsts.length : Int) + x.snd).toNat = p.firsts.length + x.snd.toNat := by omega
  have hne : ¬ p.firsts.length + x.snd.toNat = x.fst.toNat := by omega
  rw [decide_eq_true q1, decide_eq_true q2]
  simp only [cond_true, List.cons_append, List.nil_append, List.foldl_cons, List.foldl_nil, e2, Option.some.injEq]
  by_cases z1 : i = x.fst.toNat
  ·have z2 : ¬ i = p.firsts.length + x.snd.toNat := by omega
   simp [z1.symm, z2, Ne.symm z2]
  ·by_cases z2 : i = p.firsts.length + x.snd.toNat
   ·simp [z1, Ne.symm z1, z2, hne, Ne.symm hne]
   ·simp [z1, Ne.symm z1, z2, Ne.symm z2]
 ·rw [decide_eq_true q1, decide_eq_false q2]
  simp only [cond_true, cond_false, List.append_nil, List.foldl_cons, List.foldl_nil, Option.some.injEq]
  by_cases z1 : i = x.fst.toNat
  ·simp [z1]
  ·simp [z1, Ne.symm z1]
 ·have e2 : ((p.firsts.length : Int) + x.snd).toNat = p.firsts.length + x.snd.toNat := by omega
  rw [decide_eq_false q1, decide_eq_true q2]
  simp only [cond_true, cond_false, List.nil_append, List.foldl_cons, List.foldl_nil, e2, Option.some.injEq]
  by_cases z2 : i = p.firsts.length + x.snd.toNat
  ·simp [z2]
  ·simp [z2, Ne.symm z2]
 ·rw [decide_eq_false q1, decide_eq_false q2]
  simp
end Go.AB
namespace Go.AB
open Go Go.RowKit
open Go.AB.Enc (cells)
section
variable {P : Program} {o : Oper} {st : St} {K : St → Prop}
/-- An empty slice that is built: owned. -/
theorem jn {t e : TypeId} {sz bytes : Nat} [AppT P t e sz bytes] (ho : o.op = .buildSlice t 0 #[]) (hsz1 : 1 ≤ sz) (h : K (St.put { st with G := ai st.G st.nx (.arr 0 0 e sz 0 []), nx := st.nx + 1 } o.dst (.own st.nx 0 0))) : EStep P o st K :=
 ki fun E w a hsim => by
  obtain ⟨ht, i, z, hie, hz, h1, h2, h3⟩ := AppT.spec (P := P) (t := t) (e := e) (sz := sz) (bytes := bytes)
  obtain ⟨ob, hob⟩ : ∃ ob, ob = Obj.cells #[] e := ⟨_, rfl⟩
  have hev := Ev.laid hsim.g (o := ob) 0 (.inl rfl)
  have hg := SimG.laid hsim.g (o := ob) 0 (.inl rfl)
  have hnew : (w.alloc ob).heap[w.heap.size]? = some ob := nj w ob
  have hsz : (w.alloc ob).heap.size = w.heap.size + 1 := by simp
  have hold : ∀ n tt b, (E.lay w.heap.size 0).T n = some tt → blk tt.2.2 = some b → b < w.heap.size := fun n tt b h5 h6 => (hsim.g.tb n _ _ _ b h5 h6).2
  have hnx := hsim.g.nx
  have hfr : ∀ b o', blk (.slice (some ⟨w.heap.size, 0, none⟩) 0 0) = some b → w.heap[b]? = some o' → False := fun b o' hbk ho' => by
   simp only [blk, Option.some.injEq] at hbk
   subst hbk
   have := (Array.getElem?_eq_some_iff.1 ho').1
   omega
  have hev2 := hev.thenName (.slice (some ⟨w.heap.size, 0, none⟩) 0 0) hfr
  have hg2 := SimG.name hg (.slice (some ⟨w.heap.size, 0, none⟩) 0 0) (.arr 0 0 e sz 0 []) (fun b hbk => by
   simp only [blk, Option.some.injEq] at hbk
   subst hbk
   exact ⟨hsim.g.base, by rw [hsz]; omega, fun n tt h5 h6 => absurd (hold n tt _ h5 h6) (by omega)⟩) (by
   refine ⟨.slice (some ⟨w.heap.size, 0, none⟩) 0 0, [], ?_, ⟨by simp, .inr ⟨w.heap.size, 0, _, rfl, hsim.g.base, hnew.trans (by rw [hob]), Nat.le_refl _, Nat.zero_le _, by simp, by simp⟩⟩, fun c hc => (by cases hc), Rs.nil, fun b hbk => ?_, hsz1⟩
   ·simp [Env.name, Env.lay, hnx]
   ·simp only [blk, Option.some.injEq] at hbk
    subst hbk
    simp [Env.name, Env.lay])
  refine ⟨.slice (some ⟨w.heap.size, 0, none⟩) 0 0, w.alloc ob, _, _, _, .own st.nx 0 0, ?_, hev2, ?_, hg2, h⟩
  ·subst hob
   simp [execOp, ho, Instr.buildSlice, run_underlying ht, sizeOf, typeInfo, hie, Instr.fill, newRow, newObj, Sem.run, show (Array.map (fun _ => (default : Value)) (Array.range 0)) = #[] from by simp]
  ·refine R.own (by simp [Env.name, Env.lay]; omega) (Nat.le_refl _) (Nat.zero_le _) fun ver wv val htt => ?_
   simp only [Env.name, Env.lay, hnx, if_true, Option.some.injEq, Prod.mk.injEq] at htt
   obtain ⟨rfl, rfl, rfl⟩ := htt
   exact ⟨Nat.le_refl _, fun _ => ⟨_, Nat.le_refl _, rfl⟩⟩
end
end Go.AB
namespace Go.AB
open Go Go.RowKit
open Go.AB.Enc (cells)
variable {ρ : Option Nat}
section
variable {P : Program} {Q : Exit → St → Prop} {st : St}
theorem Back.simN {E0 E' : Env} {w0 w' : World} {a0 a' : Act} {st' : St} {u : List (Nat × C)} {g : Nat → Option GObj} {M : Nat} (h0 : Sim E0 w0 st a0) (hr : st.r = []) (hM : st.nx ≤ M) (hb : Back { st with nx := M } u g st') (hu : pf M u) (hg : ∀ n o, g n = some o → st.G n = some o ∨ (n < M ∧ o.low M))
  (hev : Ev E0 w0 E' w') (hs : Sim E' w' st' a') : Ev E0 w0 (E'.drop M) w' ∧ Sim (E'.drop M) w' { st with r := u, G := g, nx := M } a' := by
 have h1 := h0.g.nx
 refine ⟨hev.drop (by omega), ?_⟩
 have hlow : ∀ i, i < st.n → (bx st.l u i).low M := fun i hi => by
  rcases tf st.l u i with ⟨p, hp, _, he⟩ | ⟨_, he⟩
  ·rw [he]; exact yk hu p hp
  ·rw [he]
   have := h0.low i hi
   rw [hr] at this
   exact C.low.mono this hM
 have hcl : ∀ i, bx st.l u i = .any ∨ bx st.l u i = bx st'.l st'.r i := fun i => by
  by_cases hi : i < st.l.length
  ·rcases v7 _ _ hb.fits i (Nat.zero_le _) (by show i < 0 + st.l.length; omega) with h | h
   ·exact .inl h
   ·exact .inr h.symm
  ·rcases tf st.l u i with ⟨p, hp, he, he2⟩ | ⟨_, he⟩
   ·rcases hb.keys with hk | hk
    ·have h2 : p.1 < st.l.length := vp hk p hp
     omega
    ·rcases v6 hk p hp with h | h
     ·left; rw [he2, h]
     ·right; rw [he2, ← h, he]
   ·left; rw [he, List.getD_eq_getElem?_getD, List.getElem?_eq_none (by omega)]; rfl
 refine hs.dropTo (st' := { st with r := u, G := g, nx := M }) hb.n.1.symm hb.n.2.symm hb.nx (fun i hi => ?_) fun n o ho => ⟨hb.G n o ho, ?_⟩
 ·rcases hcl i with h2 | h2
  ·exact .inl h2
  ·exact .inr ⟨h2, hlow i (hb.n.1 ▸ hi)⟩
 ·rcases hg n o ho with h2 | h2
  ·have := h0.lowG n o h2
   exact ⟨by have := this.1; show n < M; omega, GObj.low_mono this.2 hM⟩
  ·exact h2
end
section
variable {P : Program} {o : Oper} {st : St} {K : St → Prop}
end
end Go.AB
namespace Go.AB
open Go Go.RowKit
theorem ues {ρ : Option Nat} {P : Program} {Q : Exit → St → Prop} {st : St} {X : Type} {x y : Code} (I : X → Prop) (u : X → List (Nat × C)) (g : X → (Nat → Option GObj) → Nat → Option GObj) (N : X → Nat) (hr : st.r = [])
  (hN : ∀ x, I x → st.nx ≤ N x) (hu : ∀ x, I x → pf (N x) (u x)) (hg : ∀ x, I x → ∀ n o, g x st.G n = some o → st.G n = some o ∨ (n < N x ∧ o.low (N x)))
  (h1 : AW ρ P x (ow (fun st' => ∃ x', I x' ∧ Back { st with nx := N x' } (u x') (g x' st.G) st') Q) st) (h2 : ∀ x', I x' → AW ρ P y Q { st with r := u x', G := g x' st.G, nx := N x' }) : AW ρ P (.seq x y) Q st := by
 intro E w a hs
 refine wpIn_seq (iq ?_ (h1 E w a hs))
 rintro e a' w' ⟨st', E', q1, q2, q3⟩
 cases e with
 | normal =>
  obtain ⟨x', h5, h6⟩ := q3
  obtain ⟨h7, h8⟩ := Back.simN hs hr (hN x' h5) h6 (hu x' h5) (hg x' h5) q1 q2
  exact iq (fun _ _ _ hq => ms h7 hq) (h2 x' h5 _ w' a' h8)
 | _ => exact ⟨st', E', q1, q2, q3⟩
/-- What stands in a slot is known less well. -/
theorem tu {ρ : Option Nat} {P : Program} {Q : Exit → St → Prop} {st : St} {x : Code} (i : Nat) {c : C} (c' : C) (h0 : st.at i = c) (hw : Wk c c') (h : AW ρ P x Q { st with r := (i, c') :: st.r }) : AW ρ P x Q st := by
 intro E w a hs
 have hp := hs.at i
 rw [h0] at hp
 refine h E w a ⟨hs.d, hs.sz, fun j v hj => ?_, hs.g⟩
 simp only [bx]
 cases hb : Nat.beq i j
 ·exact hs.t j v hj
 ·have hij := Nat.eq_of_beq_eq_true hb
  subst hij
  have hv : a.tmps.getD i undef = v := by rw [Array.getD_eq_getD_getElem?, hj]; rfl
  rw [hv] at hp
  exact hw.2 _ _ _ hp
end Go.AB
namespace Go.AB
open Go Go.RowKit
open Go.AB.Enc (cells)
open Go.PB (ay ak PlaceD bi bk bj bz av aq cy cx dp dm)
/-- the first reader of whom less than nothing is left -/
def ku (p : aq) : Nat → Option Nat
 | 0 => none
 | k + 1 => match ku p k with
  | some i => some i
  | none => bif decide (dh p k < 0) then some k else none
theorem yc {p : aq} {k : Nat} (h : ku p k = none) : ku p (k + 1) = bif decide (dh p k < 0) then some k else none := by simp only [ku, h]
theorem ub9 {p : aq} {k i : Nat} (h : ku p k = some i) : ∀ m, k ≤ m → ku p m = some i := by
 intro m hm
 induction hm with
 | refl => exact h
 | step _ ih => simp only [ku, ih]
theorem uca {p : aq} : ∀ {k : Nat}, ku p k = none ↔ ∀ i, i < k → 0 ≤ dh p i
 | 0 => by simp [ku]
 | k + 1 => by
  have ih := uca (p := p) (k := k)
  cases h : ku p k with
  | some i =>
   rw [ub9 h _ (Nat.le_succ _)]
   constructor
   ·intro q; cases q
   intro q
   have := ih.2 fun i hi => q i (by omega)
   rw [h] at this; cases this
  | none =>
   rw [yc h]
   have h2 := ih.1 h
   by_cases q : dh p k < 0
   ·rw [decide_eq_true q]
    constructor
    ·intro z; cases z
    intro z; have := z k (by omega); omega
   rw [decide_eq_false q]
   constructor
   ·intro _ i hi
    by_cases e : i = k
    ·subst e; omega
    exact h2 i (by omega)
   intro _; rfl
theorem w8 (p : aq) : iz p = decide (ku p (bl p) = none) := by
 rw [Bool.eq_iff_iff, decide_eq_true_eq, uca]
 unfold iz
 rw [List.all_eq_true]
 constructor
 ·intro h i hi
  exact of_decide_eq_true (h i (List.mem_range.2 hi))
 intro h i hi
 exact decide_eq_true (h i (List.mem_range.1 hi))
/-- what the reference gives for rooms -/
def sg (p : aq) : dm := match ku p (bl p) with
 | some i => ⟨bh i (dh p), []⟩
 | none => o4 p (dh p) (dx p)
theorem ua8 {p : aq} (h : iz p = true) : sg p = o4 p (dh p) (dx p) := by
 rw [w8, decide_eq_true_eq] at h
 unfold sg; rw [h]
theorem udh {l : List Int} {k : Nat} {z : Int} (h : l[k]? = some z) : (ct l)[k]? = some (.v (.int .i64 z)) := by
 have e : ct l = l.map fun y => .v (.int .i64 y) := by
  clear h
  induction l with
  | nil => rfl
  | cons y l ih =>
   have h1 : ct (y :: l) = cells y ++ ct l := by simp [ct]
   rw [h1, ih]; rfl
 rw [e, List.getElem?_map, h]; rfl
theorem vm (p : aq) (i : Nat) : dh p i = bif decide (p.firsts.length ≤ i) then jz p true (i - p.firsts.length) else jz p false i := by
 unfold dh
 by_cases h : i < p.firsts.length
 ·rw [decide_eq_true h, decide_eq_false (show ¬ p.firsts.length ≤ i by omega)]; rfl
 rw [decide_eq_false h, decide_eq_true (show p.firsts.length ≤ i by omega)]; rfl
end Go.AB
namespace Go.Proofs.YtgffhbbcpgdjjaaDoor
set_option maxRecDepth 10000
open Go.RowKit Go.AB
open Go.AB.Enc (cells)
open Go.PB (ay ak PlaceD bi bk bj bz av aq cy cx dp dm)
set_option maxHeartbeats 1000000 in
theorem uhs (p : aq) (h : f5 p) : Pure Tryd.prog 54 [val p] (.tup [val (sg p), .v (.bool (iz p))]) := by
 refine cz Tryd.func54 rfl (fun m => .tup (dd (fa _ _) (dd .v eg))) fun G nx => ?_
 simp only [Tryd.ntmps54, List.length_cons, List.length_nil, Nat.reduceAdd, Nat.reduceSub]
 refine ci fun hlt => ?_
 dsimp only at hlt
 have hn1 := h.nf
 have hn2 := h.ns
 have hnp := h.np
 have hnr : bl p = p.firsts.length + p.seconds.length := rfl
 have hal := n1 h.text
 refine yS fun _ K1 => ?_
 refine yR ?_
 try dsimp only [St.put]
 refine yB rfl rfl rfl ?_
 try dsimp only [St.put]
 refine aj rfl (eb rfl ?_)
 refine yA rfl rfl ?_
 refine yN ?_
 dsimp only [St.put]
 refine K1 _ ?_
 refine yS fun _ K2 => ?_
 refine yR ?_
 try dsimp only [St.put]
 refine aj rfl (eb rfl ?_)
 refine yN ?_
 dsimp only [St.put]
 refine K2 _ ?_
 refine nz (nx + 1) 0 _ _ 3 1 zG rfl (by decide) ?_
 refine nz (nx + 1) 1 _ _ 3 1 zG rfl (by decide) ?_
 dsimp only [List.set_cons_zero, List.set_cons_succ]
 refine yS fun _ K3 => ?_
 refine yS fun _ K4 => ?_
 refine yR ?_
 refine yA rfl rfl ?_
 refine yN ?_
 dsimp only [St.put]
 refine K4 _ ?_
 refine az ?_
 refine ck 11 ?_
 refine zQ ?_
 refine c6 ((ai (ai (ai (ai G nx (.box 0 [.list [] .nil, .list [] .nil])) (nx + 1) (.box (0) [.list ((bh 0 (dh p)).map cells) (.tip (nx + 1 + 1)), .list ((bh 0 (dx p)).map cells) (.tip (nx + 1 + 1 + 1))])) (nx + 1 + 1) (.tip (bh 0 (dh p)).length 3 1)) (nx + 1 + 1 + 1) (.tip (bh 0 (dx p)).length 3 1))) zX ?_
 dsimp only
 refine c5 (X := Nat) (fun i => i ≤ bl p ∧ ku p i = none) (fun i => bl p - i) (fun i => [(5, .v (.int .i64 (i : Int))), (6, .any), (7, .any), (8, .any), (9, .any)]) (fun i G' => (ai (ai (ai (ai G nx (.box 0 [.list [] .nil, .list [] .nil])) (nx + 1) (.box (i) [.list ((bh i (dh p)).map cells) (.tip (nx + 1 + 1)), .list ((bh 0 (dx p)).map cells) (.tip (nx + 1 + 1 + 1))])) (nx + 1 + 1) (.tip (bh i (dh p)).length 3 1)) (nx + 1 + 1 + 1) (.tip (bh 0 (dx p)).length 3 1))) 0 rfl ?_ ?_ ?_ ?_ ?_ ?_
 ·exact ⟨Nat.zero_le _, rfl⟩
 ·exact zF
 ·exact zX
 ·rintro i hI
  exact zL
 ·rintro i hI
  exact zH
 rintro i hI
 dsimp only at hI ⊢
 refine yS fun _ K5 => ?_
 refine yS fun _ K6 => ?_
 refine yR ?_
 refine yM rfl rfl ?_
 refine yF rfl rfl rfl rfl ?_
 refine yL rfl rfl rfl ?_
 refine aa rfl (ba rfl rfl (List.length_map _)) ?_
 refine yF rfl rfl rfl rfl ?_
 refine yL rfl rfl rfl ?_
 refine aa rfl (ba rfl rfl (List.length_map _)) ?_
 refine aa rfl (bu rfl rfl rfl (by omega)) ?_
 refine aa rfl (cj rfl rfl rfl) ?_
 refine yN ?_
 dsimp only [St.put]
 refine K6 _ ?_
 refine ar rfl (fun hc => ?_) (fun hc => ?_)
 ·replace hc := of_decide_eq_true hc
  have hi : i < bl p := by omega
  have hll := im i (dh p)
  refine ax ?_
  refine K5 _ ?_
  refine yS fun _ K7 => ?_
  refine az ?_
  refine yS fun _ K8 => ?_
  refine yR ?_
  refine yM rfl rfl ?_
  refine yF rfl rfl rfl rfl ?_
  refine yL rfl rfl rfl ?_
  refine aa rfl (ba rfl rfl (List.length_map _)) ?_
  refine aa rfl (lu rfl rfl rfl) ?_
  refine yA rfl rfl ?_
  refine yN ?_
  dsimp only [St.put]
  refine K8 _ ?_
  refine yS fun _ K9 => ?_
  refine yR ?_
  refine yM rfl rfl ?_
  refine yA rfl rfl ?_
  refine yN ?_
  dsimp only [St.put]
  refine K9 _ ?_
  refine ck 11 ?_
  refine zQ ?_
  refine km (X := Bool × Nat) (fun y => dh p i = jz p y.1 y.2 ∧ y.2 < (eh p y.1).length) (fun y => [(6, .v (.bool y.1)), (7, .v (.int .i64 (y.2 : Int)))]) (fun y G' => G') rfl ?_ (fun _ _ _ _ h => .inl h) ?_ ?_
  ·rintro ⟨b, k⟩ hI
   exact zL
  ·refine yS fun _ K11 => ?_
   refine yR ?_
   refine yM rfl rfl ?_
   refine yN ?_
   dsimp only [St.put]
   refine K11 _ ?_
   refine ar rfl (fun hc => ?_) (fun hc => ?_)
   ·have hh : p.firsts.length ≤ i := by have := of_decide_eq_true hc; omega
    rw [hc]
    refine yR ?_
    refine yM rfl rfl ?_
    refine yF rfl rfl rfl rfl ?_
    refine yL rfl rfl rfl ?_
    refine aa rfl (ba rfl rfl (List.length_map _)) ?_
    refine aa rfl (io rfl rfl rfl (by omega)) ?_
    refine yA rfl rfl ?_
    refine yN ?_
    dsimp only [St.put]
    first
    | (rw [show (i : Int) - (p.firsts.length : Int) = ((i - p.firsts.length : Nat) : Int) by omega]
       exact ⟨(true, i - p.firsts.length), ⟨by rw [vm, decide_eq_true hh]; rfl, by show i - p.firsts.length < p.seconds.length; omega⟩, ⟨⟨rfl, rfl⟩, zF, zB, zN, zX⟩⟩)
    | exact ⟨(false, i), ⟨by rw [vm, decide_eq_false hh]; rfl, by show i < p.firsts.length; omega⟩, ⟨⟨rfl, rfl⟩, zF, zB, zN, zX⟩⟩
   have hh : ¬ p.firsts.length ≤ i := by have := of_decide_eq_false hc; omega
   rw [hc]
   refine ax ?_
   first
   | (rw [show (i : Int) - (p.firsts.length : Int) = ((i - p.firsts.length : Nat) : Int) by omega]
      exact ⟨(true, i - p.firsts.length), ⟨by rw [vm, decide_eq_true hh]; rfl, by show i - p.firsts.length < p.seconds.length; omega⟩, ⟨⟨rfl, rfl⟩, zF, zB, zN, zX⟩⟩)
   | exact ⟨(false, i), ⟨by rw [vm, decide_eq_false hh]; rfl, by show i < p.firsts.length; omega⟩, ⟨⟨rfl, rfl⟩, zF, zB, zN, zX⟩⟩
  rintro ⟨b, k⟩ hk
  dsimp only at hk ⊢
  refine yS fun _ K12 => ?_
  refine yR ?_
  refine yE rfl rfl rfl ?_
  refine yM rfl rfl ?_
  refine yM rfl rfl ?_
  try dsimp only [St.put]
  refine aj rfl (bq rfl rfl rfl (uh0 p b k h hk.2) ?_)
  refine yM rfl rfl ?_
  refine yX rfl rfl rfl rfl ?_
  refine yX rfl rfl rfl rfl ?_
  refine yA rfl rfl ?_
  refine yA rfl rfl ?_
  refine yN ?_
  dsimp only [St.put]
  refine K12 _ ?_
  refine yS fun _ K13 => ?_
  refine yS fun _ K14 => ?_
  refine yR ?_
  refine yM rfl rfl ?_
  refine aa rfl (cj rfl rfl rfl) ?_
  refine yN ?_
  dsimp only [St.put]
  refine K14 _ ?_
  refine ar rfl (fun hc => ?_) (fun hc => ?_)
  ·have hneg : jz p b k < 0 := of_decide_eq_true hc
   have hN : ku p (bl p) = some i := ub9 (k := i + 1) (by rw [yc hI.2, hk.1, decide_eq_true hneg]; rfl) _ (by omega)
   have hRV : sg p = ⟨bh i (dh p), bh 0 (dx p)⟩ := by unfold sg; rw [hN]; rfl
   have hTB : iz p = false := by rw [w8, hN]; rfl
   refine yS fun _ K15 => ?_
   refine yR ?_
   try dsimp only [St.put]
   refine af rfl (d7 rfl rfl zG trivial (by rfl)) ?_
   try dsimp only [St.put]
   refine aj rfl (dj rfl rfl rfl zG rfl rfl (by rfl) ?_)
   refine yA rfl rfl ?_
   refine yN ?_
   dsimp only [St.put]
   refine K15 _ ?_
   refine aw ?_
   refine j5 rfl (mo rfl zG (by rfl) zC rfl) (fk (by constructor)) zN zS ?_ ?_
   ·rw [hRV]
    exact zW
   rw [hTB]; exact zW
  have hnn : ¬ jz p b k < 0 := of_decide_eq_false hc
  refine ax ?_
  refine K13 _ ?_
  refine yR ?_
  refine aa rfl (cv rfl rfl) ?_
  try dsimp only [St.put]
  refine af rfl (c7 rfl rfl zG trivial (by first | rfl | assumption)) ?_
  refine yM rfl rfl ?_
  try dsimp only [St.put]
  refine aj rfl (fh rfl rfl rfl (by decide) (by decide) zR (by decide) ?_)
  try dsimp only [St.put]
  refine aj rfl (jh ([jz p b k]) rfl rfl zG zE rfl rfl zA ?_ zA)
  refine aa rfl (cv rfl rfl) ?_
  try dsimp only [St.put]
  refine aj rfl (ja rfl rfl rfl zG (by constructor) rfl zO ?_)
  refine yN ?_
  dsimp only [St.put]
  refine K7 _ ?_
  refine yR ?_
  refine yM rfl rfl ?_
  refine aa rfl (bu rfl rfl rfl (by omega)) ?_
  refine yA rfl rfl ?_
  refine yN ?_
  dsimp only [St.put]
  have e := ud i (dh p)
  rw [hk.1] at e
  simp only [← e]
  exact ⟨i + 1, by omega, ⟨by omega, by rw [yc hI.2, hk.1, decide_eq_false (by omega)]; rfl⟩, ⟨⟨rfl, rfl⟩, zF, zB, zN, zX⟩⟩
 replace hc := of_decide_eq_false hc
 obtain rfl : i = bl p := by omega
 have hTB : iz p = true := by rw [w8, hI.2]; rfl
 refine cw ?_
 refine K3 _ ?_
 refine yS fun _ K16 => ?_
 refine yS fun _ K17 => ?_
 refine yR ?_
 refine yA rfl rfl ?_
 refine yN ?_
 dsimp only [St.put]
 refine K17 _ ?_
 refine az ?_
 refine ck 11 ?_
 refine zQ ?_
 refine c6 ((ai (ai (ai (ai G nx (.box 0 [.list [] .nil, .list [] .nil])) (nx + 1) (.box ((bl p)) [.list ((bh (bl p) (dh p)).map cells) (.tip (nx + 1 + 1)), .list ((bh 0 (dx p)).map cells) (.tip (nx + 1 + 1 + 1))])) (nx + 1 + 1) (.tip (bh (bl p) (dh p)).length 3 1)) (nx + 1 + 1 + 1) (.tip (bh 0 (dx p)).length 3 1))) zX ?_
 dsimp only
 refine c5 (X := Nat) (fun j => j ≤ p.pages.length) (fun j => p.pages.length - j) (fun j => [(10, .v (.int .i64 (j : Int)))]) (fun j G' => (ai (ai (ai (ai G nx (.box 0 [.list [] .nil, .list [] .nil])) (nx + 1) (.box ((bl p + j)) [.list ((bh (bl p) (dh p)).map cells) (.tip (nx + 1 + 1)), .list ((bh j (dx p)).map cells) (.tip (nx + 1 + 1 + 1))])) (nx + 1 + 1) (.tip (bh (bl p) (dh p)).length 3 1)) (nx + 1 + 1 + 1) (.tip (bh j (dx p)).length 3 1))) 0 rfl ?_ ?_ ?_ ?_ ?_ ?_
 ·exact Nat.zero_le _
 ·exact zF
 ·exact zX
 ·rintro j hI
  exact zL
 ·rintro j hI
  exact zH
 rintro j hJ
 dsimp only at hJ ⊢
 refine yS fun _ K18 => ?_
 refine yS fun _ K19 => ?_
 refine yR ?_
 refine yM rfl rfl ?_
 refine yF rfl rfl rfl rfl ?_
 refine yL rfl rfl rfl ?_
 refine aa rfl (ba rfl rfl (List.length_map _)) ?_
 refine aa rfl (cj rfl rfl rfl) ?_
 refine yN ?_
 dsimp only [St.put]
 refine K19 _ ?_
 refine ar rfl (fun hc => ?_) (fun hc => ?_)
 ·replace hc := of_decide_eq_true hc
  obtain ⟨x, hx⟩ : ∃ x, p.pages[j]? = some x := da (by omega)
  have hp := pageB_true.1 (h.page j x hx)
  have hfl := nw hp.found
  have hwl := nw hp.well
  have hgl := rb p.text x
  have hwx := ua p.text x
  have hll := im j (dx p)
  refine ax ?_
  refine K18 _ ?_
  refine yS fun _ K20 => ?_
  refine az ?_
  refine fm [(0, none), (1, none), (2, none), (3, none), (5, none), (6, none), (4, none), (7, none), (8, none), (9, none), (10, none), (11, none), (12, none), (13, none)] (fun i => [11, 13].contains i) (fun i => [4, 7, 10, 11, 13].contains i) (fun i => [0, 3, 6, 8, 9, 12].contains i) [nx + 1] (by kernel_rfl) (by kernel_rfl) ?_
  refine ae rfl rfl rfl rfl (cv rfl rfl) ?_
  try dsimp only [St.put]
  refine ah rfl rfl rfl rfl (c7 rfl rfl zG (by simp) (by first | rfl | assumption)) ?_
  try dsimp only [St.put]
  refine ah rfl rfl rfl rfl (bv rfl rfl (Enc.len _)) ?_
  refine xM rfl rfl rfl rfl rfl ?_
  try dsimp only [St.put]
  refine ah rfl rfl rfl rfl (bv rfl rfl (Enc.len _)) ?_
  refine xM rfl rfl rfl rfl rfl ?_
  refine il ?_
  try dsimp only [St.put]
  refine ib rfl rfl rfl (bq rfl rfl rfl (uhr p j x h.text hx) ⟨zD, ?_⟩)
  try dsimp only [St.put]
  refine ib rfl rfl rfl (bq rfl rfl rfl (ubg p j x h.text hx (by omega) (by omega)) ⟨zD, ?_⟩)
  refine ep rfl rfl rfl rfl (ba rfl rfl (List.length_map _)) ?_
  refine ep rfl rfl rfl rfl (io rfl rfl rfl (by omega)) ?_
  try dsimp only [St.put]
  refine ib rfl rfl rfl (fh rfl rfl rfl (by decide) (by decide) zR (by decide) ⟨zD, ?_⟩)
  try dsimp only [St.put]
  refine fy rfl rfl rfl rfl (jh ([(f8 p.text x : Int) - ((ei p.text x).length : Int)]) rfl rfl zG zE rfl rfl zA ?_ zA)
  refine ep rfl rfl rfl rfl (cv rfl rfl) ?_
  try dsimp only [St.put]
  refine fy rfl rfl rfl rfl (ja rfl rfl rfl zG (by constructor) rfl zO ?_)
  refine ij ?_
  dsimp only [St.put]
  refine K20 _ ?_
  refine yR ?_
  refine yM rfl rfl ?_
  refine aa rfl (bu rfl rfl rfl (by omega)) ?_
  refine yA rfl rfl ?_
  refine yN ?_
  dsimp only [St.put]
  have e := ud j (dx p)
  rw [show dx p j = (f8 p.text x : Int) - ((ei p.text x).length : Int) from ubr hx _] at e
  simp only [← e]
  exact ⟨j + 1, by omega, by omega, ⟨⟨rfl, rfl⟩, zF, zB, zN, zX⟩⟩
 replace hc := of_decide_eq_false hc
 obtain rfl : j = p.pages.length := by omega
 refine cw ?_
 refine K16 _ ?_
 refine yS fun _ K21 => ?_
 refine yR ?_
 try dsimp only [St.put]
 refine af rfl (d7 rfl rfl zG trivial (by rfl)) ?_
 try dsimp only [St.put]
 refine aj rfl (dj rfl rfl rfl zG rfl rfl (by rfl) ?_)
 refine yA rfl rfl ?_
 refine yN ?_
 dsimp only [St.put]
 refine K21 _ ?_
 refine aw ?_
 refine j5 rfl (mo rfl zG (by rfl) zC rfl) (fk (by constructor)) zN zS ?_ ?_
 ·rw [ua8 hTB]
  exact zW
 rw [hTB]; exact zW
theorem xr {p : aq} (h : f5 p) {j : Nat} {x : av} (hx : p.pages[j]? = some x) {k : Nat} (hk : k < (di p x).length) : ∃ zn : Nat, (di p x)[k]? = some (zn : Int) ∧ zn < bl p := by
 have hp := pageB_true.1 (h.page j x hx)
 have h1 := hp.fst
 have h2 := hp.snd
 obtain ⟨z, hz⟩ : ∃ z, (di p x)[k]? = some z := ⟨_, List.getElem?_eq_getElem hk⟩
 have hm := List.mem_of_getElem? hz
 have hb : 0 ≤ z ∧ z < (bl p : Int) := by
  unfold di at hm
  unfold bl
  rw [List.mem_append] at hm
  rcases hm with hm | hm
  ·by_cases q : 0 ≤ x.fst
   ·rw [decide_eq_true q, cond_true, List.mem_singleton] at hm; omega
   rw [decide_eq_false q] at hm; cases hm
  by_cases q : 0 ≤ x.snd
  ·rw [decide_eq_true q, cond_true, List.mem_singleton] at hm; omega
  rw [decide_eq_false q] at hm; cases hm
 exact ⟨z.toNat, by rw [hz]; congr 1; omega, by omega⟩
theorem uhy (p : aq) (R C : Nat → Int) (j : Nat) (x : av) (n : Int) (h : f5 p) (hx : p.pages[j]? = some x) (hn : -1000000 ≤ n ∧ n ≤ 1000000) (hR : ∀ i, -1000000 ≤ R i ∧ R i ≤ 1000000) : Pure Tryd.prog 83 [val p, val (o4 p R C), .v (.int .i64 (j : Int)), .v (.int .i64 n)] (val (o4 p ((eu p).lessR R j n) (me C j))) := by
 refine cz Tryd.func83 rfl (fun m => (fa _ _)) fun G nx => ?_
 simp only [Tryd.ntmps83, List.length_cons, List.length_nil, Nat.reduceAdd, Nat.reduceSub]
 refine ci fun hlt => ?_
 dsimp only at hlt
 have hjl := (List.getElem?_eq_some_iff.1 hx).1
 have hn1 := h.nf
 have hn2 := h.ns
 have hnp := h.np
 have hnr : bl p = p.firsts.length + p.seconds.length := rfl
 have hrl := uq p x
 have hl1 := im (bl p) R
 have hl2 := im p.pages.length C
 refine yS fun _ K1 => ?_
 refine yR ?_
 try dsimp only [St.put]
 refine yB rfl rfl rfl ?_
 try dsimp only [St.put]
 refine yB rfl rfl rfl ?_
 try dsimp only [St.put]
 refine aj rfl (eb rfl ?_)
 refine yN ?_
 dsimp only [St.put]
 refine K1 _ ?_
 refine ck 12 ?_
 refine zQ ?_
 refine ues (X := Nat × Nat × Nat × Nat × Nat) (fun y => (nx < y.1 ∧ nx < y.2.1 ∧ nx < y.2.2.1) ∧ (y.1 < nx + 1 + 1 + 1 + 1 ∧ y.2.1 < nx + 1 + 1 + 1 + 1 ∧ y.2.2.1 < nx + 1 + 1 + 1 + 1) ∧ (y.1 ≠ y.2.1 ∧ y.1 ≠ y.2.2.1 ∧ y.2.1 ≠ y.2.2.1)) (fun y => [(9, .box y.2.2.1 0 0)]) (fun y G' => (ai (ai (ai (ai G nx (.box 0 [.list [] .nil, .list [] .nil])) y.1 (.arr y.2.2.2.1 (0) 3 1 (bl p) (ct (bh (bl p) (R))))) y.2.1 (.arr y.2.2.2.2 0 3 1 p.pages.length (ct (bh p.pages.length C)))) y.2.2.1 (.box 1 [.own y.1 y.2.2.2.1 (bl p), .own y.2.1 y.2.2.2.2 p.pages.length]))) (fun _ => nx + 1 + 1 + 1 + 1) rfl ?_ ?_ ?_ ?_ ?_
 ·rintro ⟨a, b, c, v1, v2⟩ hI
  dsimp only at hI ⊢
  omega
 ·rintro ⟨a, b, c, v1, v2⟩ hI
  dsimp only at hI ⊢
  obtain ⟨⟨i1, i2, i3⟩, ⟨i4, i5, i6⟩, i7, i8, i9⟩ := hI
  exact zL
 ·rintro ⟨a, b, c, v1, v2⟩ hI
  dsimp only at hI ⊢
  obtain ⟨⟨i1, i2, i3⟩, ⟨i4, i5, i6⟩, i7, i8, i9⟩ := hI
  exact zH
 ·refine pn [(1, none), (2, none), (5, none), (6, none)] (fun _ => false) (fun i => [1, 5].contains i) 7 (rl [0, 1, 2, 2, 2, 4]) (by kernel_rfl) (by kernel_rfl) ?_
  refine ae rfl rfl rfl rfl (bw rfl rfl rfl) ?_
  try dsimp only [St.put]
  refine ah rfl rfl rfl rfl (bf rfl rfl) ?_
  refine ae rfl rfl rfl rfl (bw rfl rfl rfl) ?_
  try dsimp only [St.put]
  refine ah rfl rfl rfl rfl (bf rfl rfl) ?_
  refine cc ?_
  refine ca [0, 4, 9] (by kernel_rfl) (by simp) ?_
  refine br ?_ ?_
  ·try dsimp only [St.put]
   refine cn rfl rfl rfl (jn rfl (by decide) ?_)
   refine ca [3, 4, 9] (by kernel_rfl) (by simp) ?_
   refine br ?_ ?_
   ·try dsimp only [St.put]
    refine cn rfl rfl rfl (fu (xs := ([] : List Int)) (bh (bl p) R) rfl rfl zG rfl rfl rfl rfl zA zA (fun v1 => ?_))
    refine ca [4, 9] (by kernel_rfl) (by simp) ?_
    refine br ?_ ?_
    ·try dsimp only [St.put]
     refine cn rfl rfl rfl (jn rfl (by decide) ?_)
     refine ca [7, 9] (by kernel_rfl) (by simp) ?_
     refine br ?_ ?_
     ·try dsimp only [St.put]
      refine cn rfl rfl rfl (fu (xs := ([] : List Int)) (bh p.pages.length C) rfl rfl zG rfl rfl rfl rfl zA zA (fun v2 => ?_))
      refine dw [(8, none)] (fun i => [8].contains i) 2 (rl [9, 2]) (by kernel_rfl) ?_
      refine ae rfl rfl rfl rfl (je rfl rfl) ?_
      refine cc ?_
      refine ca [9] (by kernel_rfl) (by simp) ?_
      refine br ?_ ?_
      ·try dsimp only [St.put]
       refine cn rfl rfl rfl (eb rfl ?_)
       refine ca [10] (by kernel_rfl) (by simp) ?_
       refine br ?_ ?_
       ·try dsimp only [St.put]
        refine cn rfl rfl rfl (dj rfl rfl rfl zG rfl rfl (by rfl) ?_)
        dsimp only [St.put]
        refine e8 (by kernel_rfl) ?_
        simp only [List.nil_append, hl1, hl2]
        exact ⟨(nx + 1, nx + 1 + 1, nx + 1 + 1 + 1, v1, v2), by (dsimp only; omega), ⟨⟨rfl, rfl⟩, zF, zB, zN, zX⟩⟩
       exact cb
      exact cb
     refine br ?_ ?_
     ·try dsimp only [St.put]
      refine cn rfl rfl rfl (eb rfl ?_)
      refine ca [7] (by kernel_rfl) (by simp) ?_
      refine br ?_ ?_
      ·try dsimp only [St.put]
       refine cn rfl rfl rfl (fu (xs := ([] : List Int)) (bh p.pages.length C) rfl rfl zG rfl rfl rfl rfl zA zA (fun v2 => ?_))
       refine dw [(8, none)] (fun i => [8].contains i) 1 (rl [10, 1]) (by kernel_rfl) ?_
       refine ae rfl rfl rfl rfl (je rfl rfl) ?_
       refine cc ?_
       refine ca [10] (by kernel_rfl) (by simp) ?_
       refine br ?_ ?_
       ·try dsimp only [St.put]
        refine cn rfl rfl rfl (dj rfl rfl rfl zG rfl rfl (by rfl) ?_)
        dsimp only [St.put]
        refine e8 (by kernel_rfl) ?_
        simp only [List.nil_append, hl1, hl2]
        exact ⟨(nx + 1, nx + 1 + 1, nx + 1 + 1 + 1, v1, v2), by (dsimp only; omega), ⟨⟨rfl, rfl⟩, zF, zB, zN, zX⟩⟩
       exact cb
      exact cb
     exact cb
    refine br ?_ ?_
    ·try dsimp only [St.put]
     refine cn rfl rfl rfl (eb rfl ?_)
     refine ca [4] (by kernel_rfl) (by simp) ?_
     refine br ?_ ?_
     ·try dsimp only [St.put]
      refine cn rfl rfl rfl (jn rfl (by decide) ?_)
      refine ca [7] (by kernel_rfl) (by simp) ?_
      refine br ?_ ?_
      ·try dsimp only [St.put]
       refine cn rfl rfl rfl (fu (xs := ([] : List Int)) (bh p.pages.length C) rfl rfl zG rfl rfl rfl rfl zA zA (fun v2 => ?_))
       refine dw [(8, none)] (fun i => [8].contains i) 1 (rl [10, 1]) (by kernel_rfl) ?_
       refine ae rfl rfl rfl rfl (je rfl rfl) ?_
       refine cc ?_
       refine ca [10] (by kernel_rfl) (by simp) ?_
       refine br ?_ ?_
       ·try dsimp only [St.put]
        refine cn rfl rfl rfl (dj rfl rfl rfl zG rfl rfl (by rfl) ?_)
        dsimp only [St.put]
        refine e8 (by kernel_rfl) ?_
        simp only [List.nil_append, hl1, hl2]
        exact ⟨(nx + 1, nx + 1 + 1 + 1, nx + 1 + 1, v1, v2), by (dsimp only; omega), ⟨⟨rfl, rfl⟩, zF, zB, zN, zX⟩⟩
       exact cb
      exact cb
     exact cb
    exact cb
   refine br ?_ ?_
   ·try dsimp only [St.put]
    refine cn rfl rfl rfl (jn rfl (by decide) ?_)
    refine ca [3, 9] (by kernel_rfl) (by simp) ?_
    refine br ?_ ?_
    ·try dsimp only [St.put]
     refine cn rfl rfl rfl (fu (xs := ([] : List Int)) (bh (bl p) R) rfl rfl zG rfl rfl rfl rfl zA zA (fun v1 => ?_))
     refine ca [7, 9] (by kernel_rfl) (by simp) ?_
     refine br ?_ ?_
     ·try dsimp only [St.put]
      refine cn rfl rfl rfl (fu (xs := ([] : List Int)) (bh p.pages.length C) rfl rfl zG rfl rfl rfl rfl zA zA (fun v2 => ?_))
      refine dw [(8, none)] (fun i => [8].contains i) 2 (rl [9, 2]) (by kernel_rfl) ?_
      refine ae rfl rfl rfl rfl (je rfl rfl) ?_
      refine cc ?_
      refine ca [9] (by kernel_rfl) (by simp) ?_
      refine br ?_ ?_
      ·try dsimp only [St.put]
       refine cn rfl rfl rfl (eb rfl ?_)
       refine ca [10] (by kernel_rfl) (by simp) ?_
       refine br ?_ ?_
       ·try dsimp only [St.put]
        refine cn rfl rfl rfl (dj rfl rfl rfl zG rfl rfl (by rfl) ?_)
        dsimp only [St.put]
        refine e8 (by kernel_rfl) ?_
        simp only [List.nil_append, hl1, hl2]
        exact ⟨(nx + 1, nx + 1 + 1, nx + 1 + 1 + 1, v1, v2), by (dsimp only; omega), ⟨⟨rfl, rfl⟩, zF, zB, zN, zX⟩⟩
       exact cb
      exact cb
     refine br ?_ ?_
     ·try dsimp only [St.put]
      refine cn rfl rfl rfl (eb rfl ?_)
      refine ca [7] (by kernel_rfl) (by simp) ?_
      refine br ?_ ?_
      ·try dsimp only [St.put]
       refine cn rfl rfl rfl (fu (xs := ([] : List Int)) (bh p.pages.length C) rfl rfl zG rfl rfl rfl rfl zA zA (fun v2 => ?_))
       refine dw [(8, none)] (fun i => [8].contains i) 1 (rl [10, 1]) (by kernel_rfl) ?_
       refine ae rfl rfl rfl rfl (je rfl rfl) ?_
       refine cc ?_
       refine ca [10] (by kernel_rfl) (by simp) ?_
       refine br ?_ ?_
       ·try dsimp only [St.put]
        refine cn rfl rfl rfl (dj rfl rfl rfl zG rfl rfl (by rfl) ?_)
        dsimp only [St.put]
        refine e8 (by kernel_rfl) ?_
        simp only [List.nil_append, hl1, hl2]
        exact ⟨(nx + 1, nx + 1 + 1, nx + 1 + 1 + 1, v1, v2), by (dsimp only; omega), ⟨⟨rfl, rfl⟩, zF, zB, zN, zX⟩⟩
       exact cb
      exact cb
     exact cb
    refine br ?_ ?_
    ·try dsimp only [St.put]
     refine cn rfl rfl rfl (eb rfl ?_)
     refine ca [3] (by kernel_rfl) (by simp) ?_
     refine br ?_ ?_
     ·try dsimp only [St.put]
      refine cn rfl rfl rfl (fu (xs := ([] : List Int)) (bh (bl p) R) rfl rfl zG rfl rfl rfl rfl zA zA (fun v1 => ?_))
      refine ca [7] (by kernel_rfl) (by simp) ?_
      refine br ?_ ?_
      ·try dsimp only [St.put]
       refine cn rfl rfl rfl (fu (xs := ([] : List Int)) (bh p.pages.length C) rfl rfl zG rfl rfl rfl rfl zA zA (fun v2 => ?_))
       refine dw [(8, none)] (fun i => [8].contains i) 1 (rl [10, 1]) (by kernel_rfl) ?_
       refine ae rfl rfl rfl rfl (je rfl rfl) ?_
       refine cc ?_
       refine ca [10] (by kernel_rfl) (by simp) ?_
       refine br ?_ ?_
       ·try dsimp only [St.put]
        refine cn rfl rfl rfl (dj rfl rfl rfl zG rfl rfl (by rfl) ?_)
        dsimp only [St.put]
        refine e8 (by kernel_rfl) ?_
        simp only [List.nil_append, hl1, hl2]
        exact ⟨(nx + 1, nx + 1 + 1, nx + 1 + 1 + 1, v1, v2), by (dsimp only; omega), ⟨⟨rfl, rfl⟩, zF, zB, zN, zX⟩⟩
       exact cb
      exact cb
     exact cb
    exact cb
   refine br ?_ ?_
   ·try dsimp only [St.put]
    refine cn rfl rfl rfl (eb rfl ?_)
    refine ca [3, 4] (by kernel_rfl) (by simp) ?_
    refine br ?_ ?_
    ·try dsimp only [St.put]
     refine cn rfl rfl rfl (fu (xs := ([] : List Int)) (bh (bl p) R) rfl rfl zG rfl rfl rfl rfl zA zA (fun v1 => ?_))
     refine ca [4] (by kernel_rfl) (by simp) ?_
     refine br ?_ ?_
     ·try dsimp only [St.put]
      refine cn rfl rfl rfl (jn rfl (by decide) ?_)
      refine ca [7] (by kernel_rfl) (by simp) ?_
      refine br ?_ ?_
      ·try dsimp only [St.put]
       refine cn rfl rfl rfl (fu (xs := ([] : List Int)) (bh p.pages.length C) rfl rfl zG rfl rfl rfl rfl zA zA (fun v2 => ?_))
       refine dw [(8, none)] (fun i => [8].contains i) 1 (rl [10, 1]) (by kernel_rfl) ?_
       refine ae rfl rfl rfl rfl (je rfl rfl) ?_
       refine cc ?_
       refine ca [10] (by kernel_rfl) (by simp) ?_
       refine br ?_ ?_
       ·try dsimp only [St.put]
        refine cn rfl rfl rfl (dj rfl rfl rfl zG rfl rfl (by rfl) ?_)
        dsimp only [St.put]
        refine e8 (by kernel_rfl) ?_
        simp only [List.nil_append, hl1, hl2]
        exact ⟨(nx + 1, nx + 1 + 1 + 1, nx + 1 + 1, v1, v2), by (dsimp only; omega), ⟨⟨rfl, rfl⟩, zF, zB, zN, zX⟩⟩
       exact cb
      exact cb
     exact cb
    refine br ?_ ?_
    ·try dsimp only [St.put]
     refine cn rfl rfl rfl (jn rfl (by decide) ?_)
     refine ca [3] (by kernel_rfl) (by simp) ?_
     refine br ?_ ?_
     ·try dsimp only [St.put]
      refine cn rfl rfl rfl (fu (xs := ([] : List Int)) (bh (bl p) R) rfl rfl zG rfl rfl rfl rfl zA zA (fun v1 => ?_))
      refine ca [7] (by kernel_rfl) (by simp) ?_
      refine br ?_ ?_
      ·try dsimp only [St.put]
       refine cn rfl rfl rfl (fu (xs := ([] : List Int)) (bh p.pages.length C) rfl rfl zG rfl rfl rfl rfl zA zA (fun v2 => ?_))
       refine dw [(8, none)] (fun i => [8].contains i) 1 (rl [10, 1]) (by kernel_rfl) ?_
       refine ae rfl rfl rfl rfl (je rfl rfl) ?_
       refine cc ?_
       refine ca [10] (by kernel_rfl) (by simp) ?_
       refine br ?_ ?_
       ·try dsimp only [St.put]
        refine cn rfl rfl rfl (dj rfl rfl rfl zG rfl rfl (by rfl) ?_)
        dsimp only [St.put]
        refine e8 (by kernel_rfl) ?_
        simp only [List.nil_append, hl1, hl2]
        exact ⟨(nx + 1, nx + 1 + 1 + 1, nx + 1 + 1, v1, v2), by (dsimp only; omega), ⟨⟨rfl, rfl⟩, zF, zB, zN, zX⟩⟩
       exact cb
      exact cb
     exact cb
    exact cb
   exact cb
  refine br ?_ ?_
  ·try dsimp only [St.put]
   refine cn rfl rfl rfl (jn rfl (by decide) ?_)
   refine ca [0, 9] (by kernel_rfl) (by simp) ?_
   refine br ?_ ?_
   ·try dsimp only [St.put]
    refine cn rfl rfl rfl (jn rfl (by decide) ?_)
    refine ca [3, 9] (by kernel_rfl) (by simp) ?_
    refine br ?_ ?_
    ·try dsimp only [St.put]
     refine cn rfl rfl rfl (fu (xs := ([] : List Int)) (bh (bl p) R) rfl rfl zG rfl rfl rfl rfl zA zA (fun v1 => ?_))
     refine ca [7, 9] (by kernel_rfl) (by simp) ?_
     refine br ?_ ?_
     ·try dsimp only [St.put]
      refine cn rfl rfl rfl (fu (xs := ([] : List Int)) (bh p.pages.length C) rfl rfl zG rfl rfl rfl rfl zA zA (fun v2 => ?_))
      refine dw [(8, none)] (fun i => [8].contains i) 2 (rl [9, 2]) (by kernel_rfl) ?_
      refine ae rfl rfl rfl rfl (je rfl rfl) ?_
      refine cc ?_
      refine ca [9] (by kernel_rfl) (by simp) ?_
      refine br ?_ ?_
      ·try dsimp only [St.put]
       refine cn rfl rfl rfl (eb rfl ?_)
       refine ca [10] (by kernel_rfl) (by simp) ?_
       refine br ?_ ?_
       ·try dsimp only [St.put]
        refine cn rfl rfl rfl (dj rfl rfl rfl zG rfl rfl (by rfl) ?_)
        dsimp only [St.put]
        refine e8 (by kernel_rfl) ?_
        simp only [List.nil_append, hl1, hl2]
        exact ⟨(nx + 1 + 1, nx + 1, nx + 1 + 1 + 1, v1, v2), by (dsimp only; omega), ⟨⟨rfl, rfl⟩, zF, zB, zN, zX⟩⟩
       exact cb
      exact cb
     refine br ?_ ?_
     ·try dsimp only [St.put]
      refine cn rfl rfl rfl (eb rfl ?_)
      refine ca [7] (by kernel_rfl) (by simp) ?_
      refine br ?_ ?_
      ·try dsimp only [St.put]
       refine cn rfl rfl rfl (fu (xs := ([] : List Int)) (bh p.pages.length C) rfl rfl zG rfl rfl rfl rfl zA zA (fun v2 => ?_))
       refine dw [(8, none)] (fun i => [8].contains i) 1 (rl [10, 1]) (by kernel_rfl) ?_
       refine ae rfl rfl rfl rfl (je rfl rfl) ?_
       refine cc ?_
       refine ca [10] (by kernel_rfl) (by simp) ?_
       refine br ?_ ?_
       ·try dsimp only [St.put]
        refine cn rfl rfl rfl (dj rfl rfl rfl zG rfl rfl (by rfl) ?_)
        dsimp only [St.put]
        refine e8 (by kernel_rfl) ?_
        simp only [List.nil_append, hl1, hl2]
        exact ⟨(nx + 1 + 1, nx + 1, nx + 1 + 1 + 1, v1, v2), by (dsimp only; omega), ⟨⟨rfl, rfl⟩, zF, zB, zN, zX⟩⟩
       exact cb
      exact cb
     exact cb
    refine br ?_ ?_
    ·try dsimp only [St.put]
     refine cn rfl rfl rfl (eb rfl ?_)
     refine ca [3] (by kernel_rfl) (by simp) ?_
     refine br ?_ ?_
     ·try dsimp only [St.put]
      refine cn rfl rfl rfl (fu (xs := ([] : List Int)) (bh (bl p) R) rfl rfl zG rfl rfl rfl rfl zA zA (fun v1 => ?_))
      refine ca [7] (by kernel_rfl) (by simp) ?_
      refine br ?_ ?_
      ·try dsimp only [St.put]
       refine cn rfl rfl rfl (fu (xs := ([] : List Int)) (bh p.pages.length C) rfl rfl zG rfl rfl rfl rfl zA zA (fun v2 => ?_))
       refine dw [(8, none)] (fun i => [8].contains i) 1 (rl [10, 1]) (by kernel_rfl) ?_
       refine ae rfl rfl rfl rfl (je rfl rfl) ?_
       refine cc ?_
       refine ca [10] (by kernel_rfl) (by simp) ?_
       refine br ?_ ?_
       ·try dsimp only [St.put]
        refine cn rfl rfl rfl (dj rfl rfl rfl zG rfl rfl (by rfl) ?_)
        dsimp only [St.put]
        refine e8 (by kernel_rfl) ?_
        simp only [List.nil_append, hl1, hl2]
        exact ⟨(nx + 1 + 1, nx + 1, nx + 1 + 1 + 1, v1, v2), by (dsimp only; omega), ⟨⟨rfl, rfl⟩, zF, zB, zN, zX⟩⟩
       exact cb
      exact cb
     exact cb
    exact cb
   refine br ?_ ?_
   ·try dsimp only [St.put]
    refine cn rfl rfl rfl (eb rfl ?_)
    refine ca [0] (by kernel_rfl) (by simp) ?_
    refine br ?_ ?_
    ·try dsimp only [St.put]
     refine cn rfl rfl rfl (jn rfl (by decide) ?_)
     refine ca [3] (by kernel_rfl) (by simp) ?_
     refine br ?_ ?_
     ·try dsimp only [St.put]
      refine cn rfl rfl rfl (fu (xs := ([] : List Int)) (bh (bl p) R) rfl rfl zG rfl rfl rfl rfl zA zA (fun v1 => ?_))
      refine ca [7] (by kernel_rfl) (by simp) ?_
      refine br ?_ ?_
      ·try dsimp only [St.put]
       refine cn rfl rfl rfl (fu (xs := ([] : List Int)) (bh p.pages.length C) rfl rfl zG rfl rfl rfl rfl zA zA (fun v2 => ?_))
       refine dw [(8, none)] (fun i => [8].contains i) 1 (rl [10, 1]) (by kernel_rfl) ?_
       refine ae rfl rfl rfl rfl (je rfl rfl) ?_
       refine cc ?_
       refine ca [10] (by kernel_rfl) (by simp) ?_
       refine br ?_ ?_
       ·try dsimp only [St.put]
        refine cn rfl rfl rfl (dj rfl rfl rfl zG rfl rfl (by rfl) ?_)
        dsimp only [St.put]
        refine e8 (by kernel_rfl) ?_
        simp only [List.nil_append, hl1, hl2]
        exact ⟨(nx + 1 + 1 + 1, nx + 1, nx + 1 + 1, v1, v2), by (dsimp only; omega), ⟨⟨rfl, rfl⟩, zF, zB, zN, zX⟩⟩
       exact cb
      exact cb
     exact cb
    exact cb
   exact cb
  refine br ?_ ?_
  ·try dsimp only [St.put]
   refine cn rfl rfl rfl (eb rfl ?_)
   refine ca [0, 4] (by kernel_rfl) (by simp) ?_
   refine br ?_ ?_
   ·try dsimp only [St.put]
    refine cn rfl rfl rfl (jn rfl (by decide) ?_)
    refine ca [3, 4] (by kernel_rfl) (by simp) ?_
    refine br ?_ ?_
    ·try dsimp only [St.put]
     refine cn rfl rfl rfl (fu (xs := ([] : List Int)) (bh (bl p) R) rfl rfl zG rfl rfl rfl rfl zA zA (fun v1 => ?_))
     refine ca [4] (by kernel_rfl) (by simp) ?_
     refine br ?_ ?_
     ·try dsimp only [St.put]
      refine cn rfl rfl rfl (jn rfl (by decide) ?_)
      refine ca [7] (by kernel_rfl) (by simp) ?_
      refine br ?_ ?_
      ·try dsimp only [St.put]
       refine cn rfl rfl rfl (fu (xs := ([] : List Int)) (bh p.pages.length C) rfl rfl zG rfl rfl rfl rfl zA zA (fun v2 => ?_))
       refine dw [(8, none)] (fun i => [8].contains i) 1 (rl [10, 1]) (by kernel_rfl) ?_
       refine ae rfl rfl rfl rfl (je rfl rfl) ?_
       refine cc ?_
       refine ca [10] (by kernel_rfl) (by simp) ?_
       refine br ?_ ?_
       ·try dsimp only [St.put]
        refine cn rfl rfl rfl (dj rfl rfl rfl zG rfl rfl (by rfl) ?_)
        dsimp only [St.put]
        refine e8 (by kernel_rfl) ?_
        simp only [List.nil_append, hl1, hl2]
        exact ⟨(nx + 1 + 1, nx + 1 + 1 + 1, nx + 1, v1, v2), by (dsimp only; omega), ⟨⟨rfl, rfl⟩, zF, zB, zN, zX⟩⟩
       exact cb
      exact cb
     exact cb
    refine br ?_ ?_
    ·try dsimp only [St.put]
     refine cn rfl rfl rfl (jn rfl (by decide) ?_)
     refine ca [3] (by kernel_rfl) (by simp) ?_
     refine br ?_ ?_
     ·try dsimp only [St.put]
      refine cn rfl rfl rfl (fu (xs := ([] : List Int)) (bh (bl p) R) rfl rfl zG rfl rfl rfl rfl zA zA (fun v1 => ?_))
      refine ca [7] (by kernel_rfl) (by simp) ?_
      refine br ?_ ?_
      ·try dsimp only [St.put]
       refine cn rfl rfl rfl (fu (xs := ([] : List Int)) (bh p.pages.length C) rfl rfl zG rfl rfl rfl rfl zA zA (fun v2 => ?_))
       refine dw [(8, none)] (fun i => [8].contains i) 1 (rl [10, 1]) (by kernel_rfl) ?_
       refine ae rfl rfl rfl rfl (je rfl rfl) ?_
       refine cc ?_
       refine ca [10] (by kernel_rfl) (by simp) ?_
       refine br ?_ ?_
       ·try dsimp only [St.put]
        refine cn rfl rfl rfl (dj rfl rfl rfl zG rfl rfl (by rfl) ?_)
        dsimp only [St.put]
        refine e8 (by kernel_rfl) ?_
        simp only [List.nil_append, hl1, hl2]
        exact ⟨(nx + 1 + 1, nx + 1 + 1 + 1, nx + 1, v1, v2), by (dsimp only; omega), ⟨⟨rfl, rfl⟩, zF, zB, zN, zX⟩⟩
       exact cb
      exact cb
     exact cb
    exact cb
   refine br ?_ ?_
   ·try dsimp only [St.put]
    refine cn rfl rfl rfl (jn rfl (by decide) ?_)
    refine ca [0] (by kernel_rfl) (by simp) ?_
    refine br ?_ ?_
    ·try dsimp only [St.put]
     refine cn rfl rfl rfl (jn rfl (by decide) ?_)
     refine ca [3] (by kernel_rfl) (by simp) ?_
     refine br ?_ ?_
     ·try dsimp only [St.put]
      refine cn rfl rfl rfl (fu (xs := ([] : List Int)) (bh (bl p) R) rfl rfl zG rfl rfl rfl rfl zA zA (fun v1 => ?_))
      refine ca [7] (by kernel_rfl) (by simp) ?_
      refine br ?_ ?_
      ·try dsimp only [St.put]
       refine cn rfl rfl rfl (fu (xs := ([] : List Int)) (bh p.pages.length C) rfl rfl zG rfl rfl rfl rfl zA zA (fun v2 => ?_))
       refine dw [(8, none)] (fun i => [8].contains i) 1 (rl [10, 1]) (by kernel_rfl) ?_
       refine ae rfl rfl rfl rfl (je rfl rfl) ?_
       refine cc ?_
       refine ca [10] (by kernel_rfl) (by simp) ?_
       refine br ?_ ?_
       ·try dsimp only [St.put]
        refine cn rfl rfl rfl (dj rfl rfl rfl zG rfl rfl (by rfl) ?_)
        dsimp only [St.put]
        refine e8 (by kernel_rfl) ?_
        simp only [List.nil_append, hl1, hl2]
        exact ⟨(nx + 1 + 1 + 1, nx + 1 + 1, nx + 1, v1, v2), by (dsimp only; omega), ⟨⟨rfl, rfl⟩, zF, zB, zN, zX⟩⟩
       exact cb
      exact cb
     exact cb
    exact cb
   exact cb
  exact cb
 rintro ⟨a, b, c, v1, v2⟩ hI
 dsimp only at hI ⊢
 obtain ⟨⟨i1, i2, i3⟩, ⟨i4, i5, i6⟩, i7, i8, i9⟩ := hI
 refine yS fun _ K3 => ?_
 refine yR ?_
 refine yE rfl rfl rfl ?_
 refine yM rfl rfl ?_
 try dsimp only [St.put]
 refine aj rfl (bq rfl rfl rfl (ube p j x h hx) ?_)
 refine yA rfl rfl ?_
 refine yN ?_
 dsimp only [St.put]
 refine K3 _ ?_
 refine yS fun _ K4 => ?_
 refine yS fun _ K5 => ?_
 refine yR ?_
 refine yA rfl rfl ?_
 refine yN ?_
 dsimp only [St.put]
 refine K5 _ ?_
 refine az ?_
 refine ck 12 ?_
 refine zQ ?_
 refine c6 ((ai (ai (ai (ai G nx (.box 0 [.list [] .nil, .list [] .nil])) a (.arr v1 (0) 3 1 (bl p) (ct (bh (bl p) (R))))) b (.arr v2 0 3 1 p.pages.length (ct (bh p.pages.length C)))) c (.box 1 [.own a v1 (bl p), .own b v2 p.pages.length]))) zX ?_
 dsimp only
 refine c5 (X := Nat) (fun k => k ≤ (di p x).length ∧ ∀ i, -1000000 - k * 1000000 ≤ jk R n ((di p x).take k) i ∧ jk R n ((di p x).take k) i ≤ 1000000 + k * 1000000) (fun k => (di p x).length - k) (fun k => [(11, .v (.int .i64 (k : Int)))]) (fun k G' => (ai (ai (ai (ai G nx (.box 0 [.list [] .nil, .list [] .nil])) a (.arr v1 (k) 3 1 (bl p) (ct (bh (bl p) ((jk R n ((di p x).take k))))))) b (.arr v2 0 3 1 p.pages.length (ct (bh p.pages.length C)))) c (.box 1 [.own a v1 (bl p), .own b v2 p.pages.length]))) 0 rfl ?_ ?_ ?_ ?_ ?_ ?_
 ·exact ⟨Nat.zero_le _, fun i => by have := hR i; simp only [List.take_zero, uaj]; omega⟩
 ·exact zF
 ·exact zX
 ·rintro k hI
  exact zL
 ·rintro k hI
  exact zH
 rintro k hI
 dsimp only at hI ⊢
 refine yS fun _ K6 => ?_
 refine yS fun _ K7 => ?_
 refine yR ?_
 refine yM rfl rfl ?_
 refine yM rfl rfl ?_
 refine aa rfl (ba rfl rfl (List.length_map _)) ?_
 refine aa rfl (cj rfl rfl rfl) ?_
 refine yN ?_
 dsimp only [St.put]
 refine K7 _ ?_
 refine ar rfl (fun hc => ?_) (fun hc => ?_)
 ·replace hc := of_decide_eq_true hc
  obtain ⟨zn, hz, hz6⟩ := xr h hx (k := k) (by omega)
  have hst := uai (R := R) (n := n) hz
  rw [Int.toNat_natCast] at hst
  have hI2 : ∀ i, -1000000 - ((k + 1 : Nat) : Int) * 1000000 ≤ jk R n ((di p x).take (k + 1)) i ∧ jk R n ((di p x).take (k + 1)) i ≤ 1000000 + ((k + 1 : Nat) : Int) * 1000000 := fun i => by
   rw [hst]
   have h1 := hI.2 i
   have h2 := hI.2 zn
   dsimp only
   cases decide (i = zn)
   ·rw [cond_false]
    omega
   rw [cond_true]
   omega
  have hI3 := hI.2 zn
  obtain ⟨S, hS⟩ : ∃ S, jk R n ((di p x).take k) = S := ⟨_, rfl⟩
  rw [hS] at hst hI3 ⊢
  have hset := r8 S (S zn - n) hz6
  rw [← hst] at hset
  refine ax ?_
  refine K6 _ ?_
  refine yS fun _ K8 => ?_
  refine az ?_
  refine fm [(0, none), (1, none), (2, none), (3, none), (4, none), (5, none), (6, none), (7, none), (8, none), (9, none), (10, none), (11, none)] (fun i => [11].contains i) (fun i => [11].contains i) (fun i => [0, 2, 3, 4, 6, 8, 9, 10].contains i) [c, a] (by kernel_rfl) (by kernel_rfl) ?_
  refine ae rfl rfl rfl rfl (cv rfl rfl) ?_
  try dsimp only [St.put]
  refine ah rfl rfl rfl rfl (c7 rfl rfl zG (by simp) (by first | rfl | assumption)) ?_
  refine xM rfl rfl rfl rfl rfl ?_
  refine xM rfl rfl rfl rfl rfl ?_
  try dsimp only [St.put]
  refine ae rfl rfl rfl rfl (bn rfl rfl rfl rfl (bp (by assumption)) (Enc.len _)) ?_
  try dsimp only [St.put]
  refine ah rfl rfl rfl rfl (bf rfl rfl) ?_
  try dsimp only [St.put]
  refine ae rfl rfl rfl rfl (mq rfl rfl zG rfl rfl hz6) ?_
  try dsimp only [St.put]
  refine ah rfl rfl rfl rfl (co rfl rfl zG (by simp) (udh (by rw [Nat.mul_one]; exact ll S hz6))) ?_
  refine xM rfl rfl rfl rfl rfl ?_
  refine ae rfl rfl rfl rfl (io rfl rfl rfl (by omega)) ?_
  try dsimp only [St.put]
  refine ae rfl rfl rfl rfl (mq rfl rfl zG rfl rfl hz6) ?_
  refine il ?_
  try dsimp only [St.put]
  refine fy rfl rfl rfl rfl (tm (k := zn) (j := 0) (z := S zn) (z' := S zn - n) rfl rfl rfl zG rfl rfl (ll S hz6) rfl (by decide) rfl ?_)
  refine ij ?_
  dsimp only [St.put]
  refine K8 _ ?_
  refine yR ?_
  refine yM rfl rfl ?_
  refine aa rfl (bu rfl rfl rfl (by omega)) ?_
  refine yA rfl rfl ?_
  refine yN ?_
  dsimp only [St.put]
  rw [hset]
  exact ⟨k + 1, by omega, ⟨by omega, hI2⟩, ⟨⟨rfl, rfl⟩, zF, zB, zN, zX⟩⟩
 replace hc := of_decide_eq_false hc
 rw [ff (show (di p x).length ≤ k by omega), ← ucs h hx]
 refine cw ?_
 refine K4 _ ?_
 refine yS fun _ K9 => ?_
 refine yR ?_
 refine aa rfl (cv rfl rfl) ?_
 try dsimp only [St.put]
 refine af rfl (c7 rfl rfl zG trivial (by first | rfl | assumption)) ?_
 refine yM rfl rfl ?_
 try dsimp only [St.put]
 refine aa rfl (mq rfl rfl zG rfl rfl hjl) ?_
 try dsimp only [St.put]
 refine aj rfl (tm (k := j) (j := 0) (z := C j) (z' := 0) rfl rfl rfl zG rfl rfl (ll C hjl) rfl (by decide) rfl ?_)
 refine yN ?_
 dsimp only [St.put]
 rw [show (bh p.pages.length C).set j 0 = bh p.pages.length (me C j) from r8 C 0 hjl]
 refine K9 _ ?_
 refine yS fun _ K10 => ?_
 refine po c 0 (bh (bl p) ((eu p).lessR R j n)) zG rfl zG (by omega) rfl rfl (im _ _).symm ?_
 refine po c 1 (bh p.pages.length (me C j)) zG rfl zG (by omega) rfl rfl (im _ _).symm ?_
 dsimp only [List.set_cons_zero, List.set_cons_succ]
 refine yR ?_
 try dsimp only [St.put]
 refine af rfl (d7 rfl rfl zG trivial (by rfl)) ?_
 try dsimp only [St.put]
 refine aj rfl (dj rfl rfl rfl zG rfl rfl (by rfl) ?_)
 refine yN ?_
 dsimp only [St.put]
 refine K10 _ ?_
 refine aw ?_
 refine lg rfl (mo rfl zG (by rfl) zC rfl) zN zS ?_
 exact zW
end Go.Proofs.YtgffhbbcpgdjjaaDoor
namespace Go.AB
open Go Go.RowKit
open Go.AB.Enc (cells)
open Go.PB (ay ak PlaceD bi bk bj bz av aq cy cx dp dm)
theorem uei (r : Int) (s i : Nat) : r * ((s / 2 ^ i % 2 : Nat) : Int) = bif s.testBit i then r else 0 := by
 have h2 : s / 2 ^ i % 2 < 2 := Nat.mod_lt _ (by omega)
 cases hb : s.testBit i
 ·have : s / 2 ^ i % 2 = 0 := by
   have : ¬ ((s / 2 ^ i % 2 : Nat) : Int) = 1 := fun e => by
    have := bit_eq.1 e
    rw [hb] at this; cases this
   omega
  rw [this]; simp
 have : s / 2 ^ i % 2 = 1 := by have := bit_eq.2 hb; omega
 rw [this]; simp
theorem ul7 (s i : Nat) : decide (((s / 2 ^ i % 2 : Nat) : Int) = 1) = s.testBit i := by
 rw [Bool.eq_iff_iff, decide_eq_true_eq]
 exact bit_eq
theorem uhm {p : aq} (h : f5 p) {j : Nat} {x : av} (hx : p.pages[j]? = some x) {z : Int} (hz : z ∈ di p x) : ∃ zn : Nat, z = (zn : Int) ∧ zn ≤ 6 := by
 obtain ⟨k, hk⟩ := List.getElem?_of_mem hz
 obtain ⟨zn, h1, h2⟩ := ubc h hx (List.getElem?_eq_some_iff.1 hk).1
 rw [hk] at h1
 cases h1
 exact ⟨zn, rfl, h2⟩
theorem xq {p : aq} {j : Nat} {x : av} (hx : p.pages[j]? = some x) : (p.pages.map (di p))[j]? = some (di p x) := by rw [List.getElem?_map, hx]; rfl
end Go.AB
namespace Go.Proofs.YtgffhbbcpgdjjaaDoor
set_option maxRecDepth 10000
open Go.RowKit Go.AB
open Go.AB.Enc (cells)
open Go.PB (ay ak PlaceD bi bk bj bz av aq cy cx dp dm)
theorem uip (k s : Nat) (hk : k ≤ 64) (hs : s ≤ 1000) : Pure Tryd.prog 85 [.v (.int .i64 (k : Int)), .elem [.v (.int .i64 (s : Int))]] (.v (.bool (s.testBit k))) := by
 refine cz Tryd.func85 rfl (fun m => .v) fun G nx => ?_
 simp only [Tryd.ntmps85, List.length_cons, List.length_nil, Nat.reduceAdd, Nat.reduceSub]
 refine ci fun hlt => ?_
 dsimp only at hlt
 refine yS fun _ K1 => ?_
 refine yR ?_
 refine yA rfl rfl ?_
 refine yN ?_
 dsimp only [St.put]
 refine K1 _ ?_
 refine yS fun _ K2 => ?_
 refine yR ?_
 refine yL rfl rfl rfl ?_
 refine yM rfl rfl ?_
 refine aa rfl (qq (m := s) (n := k) rfl rfl rfl hk (by show (s : Int) ≤ 9223372036854775807; omega) (by decide)) ?_
 refine aa rfl (qt (m := s / 2 ^ k) rfl rfl rfl (Nat.lt_of_le_of_lt (Nat.div_le_self _ _) (by show s < 2 ^ 64; omega)) (by decide)) ?_
 refine aa rfl (lv rfl rfl rfl) ?_
 refine yA rfl rfl ?_
 refine yN ?_
 dsimp only [St.put]
 refine K2 _ ?_
 refine aw ?_
 refine bg rfl (by constructor) zN zS ?_
 exact vb (ul7 s k)
set_option maxHeartbeats 1000000 in
theorem uio (p : aq) (R C : Nat → Int) (s : Nat) (h : f5 p) (hB : Bd p R C) (hs : s ≤ 1000) : Pure Tryd.prog 62 [val (ie p R C), .v (.int .i64 (s : Int))] (.v (.int .i64 ((eu p).f R C fun i => s.testBit i))) := by
 refine cz Tryd.func62 rfl (fun m => .v) fun G nx => ?_
 simp only [Tryd.ntmps62, List.length_cons, List.length_nil, Nat.reduceAdd, Nat.reduceSub]
 refine ci fun hlt => ?_
 dsimp only at hlt
 have hnr := hB.nr
 have hnp := hB.np
 have hl1 := im (bl p) R
 have hl2 := im p.pages.length C
 refine yS fun _ K1 => ?_
 refine yR ?_
 try dsimp only [St.put]
 refine yB rfl rfl rfl ?_
 try dsimp only [St.put]
 refine yB rfl rfl rfl ?_
 refine yA rfl rfl ?_
 refine yN ?_
 dsimp only [St.put]
 refine K1 _ ?_
 refine yS fun _ K2 => ?_
 refine yR ?_
 refine yA rfl rfl ?_
 refine yN ?_
 dsimp only [St.put]
 refine K2 _ ?_
 refine yS fun _ K3 => ?_
 refine yS fun _ K4 => ?_
 refine yR ?_
 refine yF rfl rfl rfl rfl ?_
 refine yL rfl rfl rfl ?_
 refine aa rfl (ba rfl rfl (List.length_map _)) ?_
 refine yM rfl rfl ?_
 refine yN ?_
 dsimp only [St.put]
 refine K4 _ ?_
 refine az ?_
 refine ck 14 ?_
 refine zQ ?_
 refine c6 (G) zX ?_
 dsimp only
 refine c5 (X := Nat) (fun i => i ≤ bl p) (fun i => bl p - i) (fun i => [(5, .v (.int .i64 (fR R (fun i => s.testBit i) i))), (6, .any), (7, .any), (13, .v (.int .i64 (i : Int)))]) (fun i G' => G') 0 rfl ?_ ?_ (fun _ _ h => h) ?_ ?_ ?_
 ·exact Nat.zero_le _
 ·exact zF
 ·rintro i hI
  exact zL
 ·exact fun _ _ _ _ h => .inl h
 rintro i hI
 dsimp only at hI ⊢
 refine yS fun _ K5 => ?_
 refine yR ?_
 refine aa rfl (cj rfl rfl rfl) ?_
 refine yN ?_
 dsimp only [St.put]
 refine K5 _ ?_
 refine yS fun _ K6 => ?_
 refine ar rfl (fun hc => ?_) (fun hc => ?_)
 ·replace hc := of_decide_eq_true hc
  have hi : i < bl p := by
   have : (i : Int) < ((bh (bl p) R).length : Int) := hc
   rw [hl1] at this
   omega
  have hRi := ll R hi
  have hbd := tl hB (fun i => s.testBit i) i (by omega)
  have hrb := hB.r i
  have hmb : -1000000 ≤ R i * ((s / 2 ^ i % 2 : Nat) : Int) ∧ R i * ((s / 2 ^ i % 2 : Nat) : Int) ≤ 1000000 := by
   rw [uei]
   cases s.testBit i
   ·show -1000000 ≤ (0 : Int) ∧ (0 : Int) ≤ 1000000
    omega
   exact hrb
  refine ax ?_
  refine K6 _ ?_
  refine yS fun _ K7 => ?_
  refine az ?_
  refine yS fun _ K8 => ?_
  refine yR ?_
  refine yM rfl rfl ?_
  refine aa rfl (bn rfl rfl rfl rfl (bp (by assumption)) (Enc.len _)) ?_
  refine yL rfl rfl rfl ?_
  refine yA rfl rfl ?_
  refine yA rfl rfl ?_
  refine yN ?_
  dsimp only [St.put]
  refine K8 _ ?_
  refine yR ?_
  refine yM rfl rfl ?_
  refine yM rfl rfl ?_
  refine yL rfl rfl rfl ?_
  refine yM rfl rfl ?_
  refine aa rfl (qq (m := s) (n := i) rfl rfl rfl (by show i ≤ 64; omega) (by show (s : Int) ≤ 9223372036854775807; omega) (by decide)) ?_
  refine aa rfl (qt (m := s / 2 ^ i) rfl rfl rfl (Nat.lt_of_le_of_lt (Nat.div_le_self _ _) (by show s < 2 ^ 64; omega)) (by decide)) ?_
  refine aa rfl (vd rfl rfl rfl (by omega)) ?_
  refine aa rfl (bu rfl rfl rfl (by omega)) ?_
  refine yA rfl rfl ?_
  refine yN ?_
  dsimp only [St.put]
  refine K7 _ ?_
  refine yR ?_
  refine aa rfl (bu rfl rfl rfl (by omega)) ?_
  refine yM rfl rfl ?_
  refine yN ?_
  dsimp only [St.put]
  rw [uei, ← y4 R (fun i => s.testBit i) i]
  exact ⟨i + 1, by omega, by omega, ⟨⟨rfl, rfl⟩, zF, zB, zN, zX⟩⟩
 replace hc := of_decide_eq_false hc
 obtain rfl : i = bl p := by
  have : ¬ (i : Int) < ((bh (bl p) R).length : Int) := hc
  rw [hl1] at this
  omega
 have hfr := tl hB (fun i => s.testBit i) _ (Nat.le_refl (bl p))
 obtain ⟨FR, hFR⟩ : ∃ FR, fR R (fun i => s.testBit i) (bl p) = FR := ⟨_, rfl⟩
 rw [hFR] at hfr
 refine cw ?_
 refine K3 _ ?_
 refine yS fun _ K9 => ?_
 refine yS fun _ K10 => ?_
 refine yR ?_
 refine yF rfl rfl rfl rfl ?_
 refine yL rfl rfl rfl ?_
 refine aa rfl (ba rfl rfl (List.length_map _)) ?_
 refine yM rfl rfl ?_
 refine yN ?_
 dsimp only [St.put]
 rw [hFR, show FR = FR + fC p C (fun i => s.testBit i) 0 by show FR = FR + 0; omega]
 refine K10 _ ?_
 refine az ?_
 refine ck 31 ?_
 refine zQ ?_
 refine c6 (G) zX ?_
 dsimp only
 refine c5 (X := Nat) (fun j => j ≤ p.pages.length) (fun j => p.pages.length - j) (fun j => [(5, .v (.int .i64 (FR + fC p C (fun i => s.testBit i) j))), (8, .any), (9, .any), (30, .v (.int .i64 (j : Int)))]) (fun j G' => G') 0 rfl ?_ ?_ (fun _ _ h => h) ?_ ?_ ?_
 ·exact Nat.zero_le _
 ·exact zF
 ·rintro j hI
  exact zL
 ·exact fun _ _ _ _ h => .inl h
 rintro j hJ
 dsimp only at hJ ⊢
 refine yS fun _ K11 => ?_
 refine yR ?_
 refine aa rfl (cj rfl rfl rfl) ?_
 refine yN ?_
 dsimp only [St.put]
 refine K11 _ ?_
 refine yS fun _ K12 => ?_
 refine ar rfl (fun hc => ?_) (fun hc => ?_)
 ·replace hc := of_decide_eq_true hc
  have hj : j < p.pages.length := by
   have : (j : Int) < ((bh p.pages.length C).length : Int) := hc
   rw [hl2] at this
   omega
  obtain ⟨x, hx⟩ : ∃ x, p.pages[j]? = some x := da hj
  have hrx := xq hx
  have hCj := ll C hj
  have hcb := hB.c j
  have hfc := y5 hB (fun i => s.testBit i) j (by omega)
  have hhit := uc4 hx fun i => s.testBit i
  refine ax ?_
  refine K12 _ ?_
  refine yS fun _ K13 => ?_
  refine az ?_
  refine yS fun _ K14 => ?_
  refine yR ?_
  refine yM rfl rfl ?_
  refine aa rfl (bn rfl rfl rfl rfl (bp (by assumption)) (Enc.len _)) ?_
  refine yL rfl rfl rfl ?_
  refine yA rfl rfl ?_
  refine yA rfl rfl ?_
  refine yN ?_
  dsimp only [St.put]
  refine K14 _ ?_
  refine yS fun _ K15 => ?_
  refine yR ?_
  refine yF rfl rfl rfl rfl ?_
  refine yL rfl rfl rfl ?_
  refine yM rfl rfl ?_
  refine aa rfl (bn rfl rfl rfl rfl (bp (by assumption)) (Enc.len _)) ?_
  refine yL rfl rfl rfl ?_
  refine aa rfl (qr rfl rfl) ?_
  try dsimp only [St.put]
  refine aj rfl (bq rfl rfl rfl (wy (di p x) (fun z => s.testBit z.toNat) _ _ fun z hz => by obtain ⟨zn, rfl, h6⟩ := uhm h hx hz; exact uip zn s (by omega) hs) ?_)
  refine aa rfl (ef rfl rfl) ?_
  refine yN ?_
  dsimp only [St.put]
  refine K15 _ ?_
  refine ar rfl (fun hc => ?_) (fun hc => ?_)
  ·have hhn : (eu p).hit (fun i => s.testBit i) j = false := by rw [hhit]; simpa using hc
   refine yR ?_
   refine yM rfl rfl ?_
   refine yM rfl rfl ?_
   refine aa rfl (bu rfl rfl rfl (by omega)) ?_
   refine yA rfl rfl ?_
   refine yN ?_
   dsimp only [St.put]
   refine K13 _ ?_
   refine yR ?_
   refine aa rfl (bu rfl rfl rfl (by omega)) ?_
   refine yM rfl rfl ?_
   refine yN ?_
   dsimp only [St.put]
   have e := wb p C (fun i => s.testBit i) j
   first
   | (have z : (eu p).hit (fun i => s.testBit i) j = true := hhy
      rw [z, cond_true, Int.add_zero] at e
      rw [← e]
      exact ⟨j + 1, by omega, by omega, ⟨⟨rfl, rfl⟩, zF, zB, zN, zX⟩⟩)
   | (have z : (eu p).hit (fun i => s.testBit i) j = false := hhn
      rw [z, cond_false] at e
      rw [Int.add_assoc, ← e]
      exact ⟨j + 1, by omega, by omega, ⟨⟨rfl, rfl⟩, zF, zB, zN, zX⟩⟩)
  have hhy : (eu p).hit (fun i => s.testBit i) j = true := by rw [hhit]; simpa using hc
  refine ax ?_
  refine K13 _ ?_
  refine yR ?_
  refine aa rfl (bu rfl rfl rfl (by omega)) ?_
  refine yM rfl rfl ?_
  refine yN ?_
  dsimp only [St.put]
  have e := wb p C (fun i => s.testBit i) j
  first
  | (have z : (eu p).hit (fun i => s.testBit i) j = true := hhy
     rw [z, cond_true, Int.add_zero] at e
     rw [← e]
     exact ⟨j + 1, by omega, by omega, ⟨⟨rfl, rfl⟩, zF, zB, zN, zX⟩⟩)
  | (have z : (eu p).hit (fun i => s.testBit i) j = false := hhn
     rw [z, cond_false] at e
     rw [Int.add_assoc, ← e]
     exact ⟨j + 1, by omega, by omega, ⟨⟨rfl, rfl⟩, zF, zB, zN, zX⟩⟩)
 replace hc := of_decide_eq_false hc
 obtain rfl : j = p.pages.length := by
  have : ¬ (j : Int) < ((bh p.pages.length C).length : Int) := hc
  rw [hl2] at this
  omega
 refine cw ?_
 refine K9 _ ?_
 refine yS fun _ K16 => ?_
 refine yR ?_
 refine yM rfl rfl ?_
 refine yA rfl rfl ?_
 refine yN ?_
 dsimp only [St.put]
 refine K16 _ ?_
 refine aw ?_
 refine bg rfl (by constructor) zN zS ?_
 exact vi (by rw [yz, hFR])
set_option maxHeartbeats 1000000 in
theorem uir (p : aq) (R C : Nat → Int) (h : f5 p) (hB : Bd p R C) : Pure Tryd.prog 52 [val (ie p R C)] (.v (.int .i64 ((eu p).most R C))) := by
 refine cz Tryd.func52 rfl (fun m => .v) fun G nx => ?_
 simp only [Tryd.ntmps52, List.length_cons, List.length_nil, Nat.reduceAdd, Nat.reduceSub]
 refine ci fun hlt => ?_
 dsimp only at hlt
 have hnr := hB.nr
 have hl1 := im (bl p) R
 have h64 : 2 ^ bl p ≤ 2 ^ 6 := Nat.pow_le_pow_right (by omega) hnr
 have hpos : 0 < 2 ^ bl p := Nat.two_pow_pos _
 obtain ⟨g, hg⟩ : ∃ g : Nat → Int, (fun s => (eu p).f R C fun i => s.testBit i) = g := ⟨_, rfl⟩
 have hgs : ∀ s : Nat, (eu p).f R C (fun i => s.testBit i) = g s := fun s => congrFun hg s
 have hP : ∀ s : Nat, s ≤ 1000 → Pure Tryd.prog 62 [val (ie p R C), .v (.int .i64 (s : Int))] (.v (.int .i64 (g s))) := fun s hs => by
  have := uio p R C s h hB hs
  rwa [hgs] at this
 have hgb : ∀ s, -6000000 ≤ g s ∧ g s ≤ 14000000 := fun s => by rw [← hgs]; exact f_bd hB _
 refine yS fun _ K1 => ?_
 refine yR ?_
 try dsimp only [St.put]
 refine yB rfl rfl rfl ?_
 refine yA rfl rfl ?_
 refine yN ?_
 dsimp only [St.put]
 refine K1 _ ?_
 refine yS fun _ K2 => ?_
 refine yR ?_
 try dsimp only [St.put]
 refine af rfl (c := val (ie p R C)) (jc (cs := cells (ie p R C)) rfl rfl (show 3 ≤ 3 by decide)) ?_
 try dsimp only [St.put]
 refine aj rfl (bq rfl rfl rfl (hP 0 (by omega)) ?_)
 refine yA rfl rfl ?_
 refine yN ?_
 dsimp only [St.put]
 refine K2 _ ?_
 refine yS fun _ K3 => ?_
 refine yS fun _ K4 => ?_
 refine yR ?_
 refine yF rfl rfl rfl rfl ?_
 refine yL rfl rfl rfl ?_
 refine aa rfl (ba rfl rfl (List.length_map _)) ?_
 refine aa rfl (u7 (n := (bh (bl p) R).length) rfl rfl rfl (by rw [hl1]; omega)) ?_
 refine yM rfl rfl ?_
 refine yN ?_
 dsimp only [St.put]
 refine K4 _ ?_
 refine az ?_
 refine ck 12 ?_
 refine zQ ?_
 refine c6 (G) zX ?_
 dsimp only
 refine c5 (X := Nat) (fun s => s ≤ 2 ^ bl p) (fun s => 2 ^ bl p - s) (fun s => [(3, .v (.int .i64 (jy g s))), (4, .any), (11, .v (.int .i64 (s : Int)))]) (fun s G' => G') 0 rfl ?_ ?_ (fun _ _ h => h) ?_ ?_ ?_
 ·exact Nat.zero_le _
 ·exact zF
 ·rintro s hI
  exact zL
 ·exact fun _ _ _ _ h => .inl h
 rintro s hI
 dsimp only at hI ⊢
 refine yS fun _ K5 => ?_
 refine yR ?_
 refine aa rfl (cj rfl rfl rfl) ?_
 refine yN ?_
 dsimp only [St.put]
 refine K5 _ ?_
 refine yS fun _ K6 => ?_
 refine ar rfl (fun hc => ?_) (fun hc => ?_)
 ·replace hc := of_decide_eq_true hc
  have hlt : s < 2 ^ bl p := by
   have : (s : Int) < ((2 ^ (bh (bl p) R).length : Nat) : Int) := hc
   rw [hl1] at this
   omega
  have hmb := uci hgb s
  have hgb1 := hgb s
  refine ax ?_
  refine K6 _ ?_
  refine yS fun _ K7 => ?_
  refine az ?_
  refine yS fun _ K8 => ?_
  refine yR ?_
  refine yM rfl rfl ?_
  refine yA rfl rfl ?_
  refine yN ?_
  dsimp only [St.put]
  refine K8 _ ?_
  refine yR ?_
  refine yM rfl rfl ?_
  try dsimp only [St.put]
  refine af rfl (c := val (ie p R C)) (jc (cs := cells (ie p R C)) rfl rfl (show 3 ≤ 3 by decide)) ?_
  refine yM rfl rfl ?_
  try dsimp only [St.put]
  refine aj rfl (bq rfl rfl rfl (hP s (by omega)) ?_)
  refine aa rfl (uce rfl rfl rfl rfl) ?_
  refine yA rfl rfl ?_
  refine yN ?_
  dsimp only [St.put]
  refine K7 _ ?_
  refine yR ?_
  refine aa rfl (bu rfl rfl rfl (by omega)) ?_
  refine yM rfl rfl ?_
  refine yN ?_
  dsimp only [St.put]
  rw [show min (jy g s) (g s) = jy g (s + 1) from rfl]
  exact ⟨s + 1, by omega, by omega, ⟨⟨rfl, rfl⟩, zF, zB, zN, zX⟩⟩
 replace hc := of_decide_eq_false hc
 obtain rfl : s = 2 ^ bl p := by
  have : ¬ (s : Int) < ((2 ^ (bh (bl p) R).length : Nat) : Int) := hc
  rw [hl1] at this
  omega
 refine cw ?_
 refine K3 _ ?_
 refine yS fun _ K9 => ?_
 refine yR ?_
 refine yM rfl rfl ?_
 refine yA rfl rfl ?_
 refine yN ?_
 dsimp only [St.put]
 refine K9 _ ?_
 refine aw ?_
 refine bg rfl (by constructor) zN zS ?_
 exact vi (by unfold Net.most; rw [hg]; rfl)
end Go.Proofs.YtgffhbbcpgdjjaaDoor
namespace Go.AB
open Go Go.RowKit
/-- what an operation waits for -/
def mx (o : Oper) : List Nat := (o.after.toList.filter fun e => Region.binds .any e).map (·.on)
def ng (l : List Bool) : Nat := (l.filter fun b => !b).length
theorem uy : ∀ {l : List Bool} {i : Nat}, l[i]? = some false → ng (l.set i true) + 1 = ng l
 | [], i, h => by simp at h
 | b :: l, 0, h => by
  simp only [List.getElem?_cons_zero, Option.some.injEq] at h
  subst h
  simp [ng]
 | b :: l, i + 1, h => by
  simp only [List.getElem?_cons_succ] at h
  have ih := uy h
  unfold ng at ih ⊢
  cases b
  ·simp only [List.set_cons_succ, List.filter_cons, Bool.not_false, if_true, List.length_cons]; omega
  ·simp only [List.set_cons_succ, List.filter_cons, Bool.not_true, Bool.false_eq_true, if_false]; omega
theorem ub5 {l : List Bool} (h : ng l = 0) (i : Nat) : l[i]? ≠ some false := fun e => by
 have := uy e
 omega
theorem xp {ol : List Oper} {l : List Bool} {i : Nat} (h : i ∈ Region.ready .any ol.toArray l.toArray) (hl : l.length = ol.length) : ∃ o, ol[i]? = some o ∧ l[i]? = some false ∧ ∀ j ∈ mx o, l[j]? = some true := by
 unfold Region.ready at h
 simp only [List.mem_filter, List.mem_range, List.size_toArray, Bool.and_eq_true, Bool.not_eq_true'] at h
 obtain ⟨h1, h2, h3⟩ := h
 obtain ⟨o, ho⟩ : ∃ o, ol[i]? = some o := ⟨_, List.getElem?_eq_getElem h1⟩
 refine ⟨o, ho, ?_, fun j hj => ?_⟩
 ·have e := List.getElem?_eq_getElem (l := l) (i := i) (by omega)
  rw [Array.getD_eq_getD_getElem?, List.getElem?_toArray, e] at h2
  rw [e, ← h2]; rfl
 ·rw [List.getElem?_toArray, ho] at h3
  simp only [Option.map_some, Option.getD_some] at h3
  rw [← Array.all_toList, List.all_eq_true] at h3
  unfold mx at hj
  obtain ⟨e, he, rfl⟩ := List.mem_map.1 hj
  obtain ⟨he1, he2⟩ := List.mem_filter.1 he
  have := h3 e he1
  rw [he2, Bool.not_true, Bool.false_or, Array.getD_eq_getD_getElem?, List.getElem?_toArray] at this
  cases hb : l[e.on]? with
  | none => rw [hb] at this; cases this
  | some b => rw [hb] at this; rw [show b = true from this]
section
variable {P : Program} {ol : List Oper} {K : St → Prop} {late : Nat → Bool}
/-- one operation of what is left, by what holds behind it -/
def AOneI (P : Program) (ol : List Oper) (I : List Bool → St → Prop) (l : List Bool) (i : Nat) (st : St) : Prop :=
 ∃ o, ol[i]? = some o ∧ ((fb ol.toArray st o = some true ∧ EStep P o st (I (l.set i true))) ∨ (fb ol.toArray st o = some false ∧ I (l.set i true) (st.put o.dst (.tup []))))
/-- whether each operation waits only for earlier ones -/
def tg (ol : List Oper) : Bool := (List.range ol.length).all fun i => ((ol[i]?).map fun o => (mx o).all fun j => decide (j < i)).getD true
theorem xo {l : List Bool} (hf : tg ol = true) (hl : l.length = ol.length) (h : Region.ready .any ol.toArray l.toArray = []) : ∀ i, i < ol.length → l[i]? = some true := by
 intro i
 induction i using Nat.strongRecOn with
 | _ i ih =>
  intro hi
  obtain ⟨o, ho⟩ : ∃ o, ol[i]? = some o := ⟨_, List.getElem?_eq_getElem hi⟩
  have e := List.getElem?_eq_getElem (l := l) (i := i) (by omega)
  cases hb : l[i]'(by omega) with
  | true => rw [e, hb]
  | false =>
   exfalso
   have hm : i ∈ Region.ready .any ol.toArray l.toArray := by
    unfold Region.ready
    simp only [List.mem_filter, List.mem_range, List.size_toArray, Bool.and_eq_true, Bool.not_eq_true']
    refine ⟨hi, by rw [Array.getD_eq_getD_getElem?, List.getElem?_toArray, e, hb]; rfl, ?_⟩
    rw [List.getElem?_toArray, ho]
    simp only [Option.map_some, Option.getD_some]
    rw [← Array.all_toList, List.all_eq_true]
    intro e1 he1
    cases hq : Region.binds .any e1 with
    | false => rfl
    | true =>
     rw [Bool.not_true, Bool.false_or, Array.getD_eq_getD_getElem?, List.getElem?_toArray]
     have hj : e1.on ∈ mx o := List.mem_map.2 ⟨e1, List.mem_filter.2 ⟨he1, hq⟩, rfl⟩
     have h1 := List.all_eq_true.1 hf i (List.mem_range.2 hi)
     rw [ho] at h1
     simp only [Option.map_some, Option.getD_some, List.all_eq_true] at h1
     have hlt := of_decide_eq_true (h1 _ hj)
     rw [ih _ hlt (by omega)]; rfl
   rw [h] at hm
   cases hm
theorem zr (I : List Bool → St → Prop) (hf : tg ol = true) (hl : ∀ l st, I l st → l.length = ol.length)
  (hs : ∀ l st i o, I l st → ol[i]? = some o → l[i]? = some false → (∀ j ∈ mx o, l[j]? = some true) → AOneI P ol I l i st)
  (he : ∀ l st, I l st → (∀ i, i < ol.length → l[i]? = some true) → K st) : ∀ (fuel : Nat) (l : List Bool) (st : St), I l st → ng l = fuel → m6 P ol K late fuel l st
 | 0, l, st, hI, h0 => by
  have hr : Region.ready .any ol.toArray l.toArray = [] := by
   cases h : Region.ready .any ol.toArray l.toArray with
   | nil => rfl
   | cons i is =>
    obtain ⟨o, _, h2, _⟩ := xp (i := i) (by rw [h]; exact List.mem_cons_self ..) (hl l st hI)
    exact absurd h2 (ub5 h0 i)
  exact e8 (by rw [hr]; rfl) (he l st hI (xo hf (hl l st hI) hr))
 | fuel + 1, l, st, hI, h0 => by
  cases h : Region.ready .any ol.toArray l.toArray with
  | nil => exact e8 (by rw [h]; rfl) (he l st hI (xo hf (hl l st hI) h))
  | cons i is =>
   refine ca (i :: is) (by rw [h]; exact beq_self_eq_true _) (by simp) ?_
   have hall : ∀ js : List Nat, (∀ j ∈ js, j ∈ Region.ready .any ol.toArray l.toArray) → rt P ol K late fuel l st js := by
    intro js
    induction js with
    | nil => intro _; trivial
    | cons j js ih =>
     intro hjs
     refine ⟨?_, ih fun k hk => hjs k (List.mem_cons_of_mem _ hk)⟩
     obtain ⟨o, ho, h2, h3⟩ := xp (hjs j (List.mem_cons_self ..)) (hl l st hI)
     have hn : ng (l.set j true) = fuel := by have := uy h2; omega
     obtain ⟨o', ho', hc⟩ := hs l st j o hI ho h2 h3
     refine ⟨o', ho', ?_⟩
     rcases hc with ⟨hg, hE⟩ | ⟨hg, hE⟩
     ·exact .inl ⟨hg, hE.mono fun st' h' => zr I hf hl hs he fuel _ _ h' hn⟩
     ·exact .inr ⟨hg, zr I hf hl hs he fuel _ _ hE hn⟩
   exact hall (i :: is) fun j hj => by rw [h]; exact hj
end
theorem uiv {w : World} {B B' : Nat} {tt : TypeId} {sz len : Nat} {val : Value} {us us' : List Value} (h : w.ownsRow B tt sz val len us) (k : w.ownsRow B' tt sz val len us') : us = us' := by
 obtain ⟨l1, h1⟩ := h
 obtain ⟨l2, h2⟩ := k
 rcases h1 with ⟨e, h0⟩ | ⟨g, cap, cur, e, _, hh, _, _, _, ht⟩
 ·subst h0
  rw [Nat.zero_mul] at l1 l2
  rw [List.length_eq_zero_iff.1 l1, List.length_eq_zero_iff.1 l2]
 ·rcases h2 with ⟨e', _⟩ | ⟨g', cap', cur', e', _, hh', _, _, _, ht'⟩
  ·rw [e] at e'; cases e'
  ·rw [e] at e'
   cases e'
   rw [hh] at hh'
   cases hh'
   rw [← ht, ← ht']
/-- an own slice laid for good, as a cell of another one holds it -/
theorem uet {P : Program} {ρ : Option Nat} {Q : Exit → St → Prop} {st : St} {c : Code} {α : Type} [Enc α] (m off : Nat) {n ver wv wm len sz verm szm lenm : Nat} {tt ttm : TypeId} {cs ds : List C} (xs : List α) (hM : st.G m = some (.arr verm wm ttm szm lenm ds)) (h0 : ds[off]? = some (.own n ver len)) (hG : st.G n = some (.arr ver wv tt sz len cs)) (hnm : m ≠ n) (hsz : sz = Enc.n α) (hcs : cs = ct xs) (hlen : len = xs.length) (h : AW ρ P c Q { st with G := ai (mf st.G n) m (.arr verm wm ttm szm lenm (ds.set off (lst xs))) }) : AW ρ P c Q st := by
 intro E w a hs
 obtain ⟨E', hE, hg', hl⟩ := xz hs.g xs hG hsz hcs hlen
 obtain ⟨val, us, hT, how, hone, hr, hL, hpos⟩ := hg'.obj m (.arr verm wm ttm szm lenm ds) (by rw [l5 hnm]; exact hM)
 obtain ⟨val2, us2, hT2, how2, _, hr2, _, _⟩ := hs.g.obj m _ hM
 have hs2 := hs.evd hE hg'
 have hTT : val = val2 := by
  obtain ⟨ver1, wv1, val1, q1, q2, q3⟩ := hE.T m (hs.g.lt m _ hT2) _ _ _ hT
  rw [hT2] at q1
  simp only [Option.some.injEq, Prod.mk.injEq] at q1
  obtain ⟨rfl, rfl, rfl⟩ := q1
  exact (q3 rfl).1.symm
 subst hTT
 have e1 : us = us2 := uiv how how2
 subst e1
 refine iq (fun _ _ _ hq => ms hE hq) (h E' w a ⟨hs.d.ev hE, hs.sz, hs2.t, ⟨hg'.nx, fun k o ho => ?_, hg'.lt, hg'.tb, hg'.ap, hg'.fresh, hg'.base⟩⟩)
 simp only [ai] at ho
 split at ho
 ·rename_i ek
  subst ek
  simp only [Option.some.injEq] at ho
  subst ho
  refine ⟨val, us, hT, how, fun d hd => ?_, ⟨by rw [hr.1]; simp, fun j d v hd hv => ?_⟩, hL, hpos⟩
  ·rcases List.mem_or_eq_of_mem_set hd with hd | rfl
   ·exact hone d hd
   ·rfl
  ·rw [List.getElem?_set] at hd
   split at hd
   ·rename_i ej
    subst ej
    split at hd
    ·simp only [Option.some.injEq] at hd
     subst hd
     exact hl v (hr2.2 off _ v h0 hv)
    ·cases hd
   ·exact hr.2 j d v hd hv
 ·exact hg'.obj k o ho
theorem ubj {cs : List C} {i : Nat} {c c0 : C} (h : cs[i]? = some c0) : (putAt cs i [c]).set i c0 = cs := by
 have hl := (List.getElem?_eq_some_iff.1 h).1
 show (cs.set i c).set i c0 = cs
 rw [List.set_set]
 obtain rfl := Option.some.inj ((List.getElem?_eq_getElem hl).symm.trans h)
 exact List.set_getElem_self hl
end Go.AB
namespace Go.AB
open Go Go.RowKit
variable {ρ : Option Nat}
section
variable {P : Program} {ops : Array Oper} {Q : Exit → Act → World → Prop} {S : World → Prop} {late : Nat → Bool}
/-- Values alone: whatever has come up. -/
theorem ufh {S2 : World → Prop} (fin : Act → World → Prop) (fuel : Nat) (hs : Region.noSelect ops = true) (hQ : ∀ (o : Option Tmp) (v : Value) c a w, Q (.panic c) (a.put o v) w → Q (.panic c) a w) :
  ∀ (π : List (Nat × Option Nat)) (listed : Array Bool) (a : Act) (w : World), Closed .any ops listed → mz ops late (fun _ => true) π listed = true →
   (∀ a, fin a w → iy P .any ops Q S late fuel (l4 π listed) a w) → gq P ops (jb fin) S2 late (fun _ => false) (fun _ => true) π a w → iy P .any ops Q S late (gr π + fuel) listed a w := by
 intro π
 induction π with
 | nil =>
  intro listed a w _ _ hf h
  have := hf a h
  simpa [gr, l4] using this
 | cons p rest ih =>
  obtain ⟨i, m⟩ := p
  intro listed a w hcl hc hf h
  cases m with
  | some j => simp [mz] at hc
  | none =>
   simp only [mz, Bool.and_eq_true] at hc
   obtain ⟨⟨⟨⟨hready, hfree⟩, hsome⟩, hlate⟩, hc2⟩ := hc
   simp only [gq, Bool.false_eq_true, if_false] at h
   cases ho : ops[i]? with
   | none => rw [ho] at hsome; cases hsome
   | some o =>
    rw [ho] at h
    obtain ⟨v, hy, hrest⟩ := h
    have hi : i ∈ Region.ready .any ops listed := by simpa using hready
    have hrec := ih _ _ _ (hcl.set hi) hc2 hf hrest
    have hp : gr ((i, none) :: rest) + fuel = gr rest + fuel + 1 := by simp only [gr]; omega
    rw [hp]
    simp only [if_true] at hy
    exact rx (depth := ops.size) (fun _ => True) ho (Region.noSelect_spec hs) (fun c a w => hQ o.dst v c a w) (.inl fun _ => trivial) (gr rest + fuel) listed a w hcl (Region.free_spec ho hfree) hi hy trivial hrec
end
section
variable (P : Program) (ol : List Oper) (K : St → Prop) (D : List Nat) (late : Nat → Bool)
/-- What is left, in whatever order; b: something late has come up. -/
def lh (b : Bool) (fuel : Nat) (listed : List Bool) (st : St) : Prop :=
 ∀ (E0 : Env) (w0 : World) (Q : Act → World → Prop), (∀ a' w' st' E', Ev E0 w0 E' w' → Sim E' w' st' a' → K st' → Q a' w') →
  ∀ E1 w1 a, Ev E0 w0 E1 w1 → Sim E1 w1 st a → (b = false → ∀ n ∈ D, E1.T n = E0.T n) → iy P .any ol.toArray (jb Q) (Keeps E0 (· ∈ D) w0) late fuel listed.toArray a w1
def wz (b : Bool) (fuel : Nat) (listed : List Bool) (i : Nat) (st : St) : Prop :=
 ∃ o, ol[i]? = some o ∧ fb ol.toArray st o = some true ∧ ((b = false ∧ EStep P o st fun st' => n2 D st st' ∧ lh P ol K D late false fuel (listed.set i true) st') ∨ (late i = true ∧ EStep P o st (lh P ol K D late true fuel (listed.set i true))))
def rr (b : Bool) (fuel : Nat) (listed : List Bool) (st : St) : List Nat → Prop
 | [] => True
 | i :: is => wz P ol K D late b fuel listed i st ∧ rr b fuel listed st is
end
section
variable {P : Program} {ol : List Oper} {K : St → Prop} {D : List Nat} {late : Nat → Bool} {b : Bool} {fuel : Nat} {listed : List Bool} {st : St} {i : Nat} {is : List Nat} {o : Oper} {c : C}
theorem rn : rr P ol K D late b fuel listed st [] := trivial
theorem ro (h : wz P ol K D late b fuel listed i st) (k : rr P ol K D late b fuel listed st is) : rr P ol K D late b fuel listed st (i :: is) := ⟨h, k⟩
theorem ri (hL : late i = true) (hol : ol[i]? = some o) (hg : fb ol.toArray st o = some true) {listed' : List Bool} (hl : listed.set i true = listed') (h : EStep P o st (lh P ol K D late true fuel listed')) : wz P ol K D late b fuel listed i st :=
 ⟨o, hol, hg, .inr ⟨hL, by rw [hl]; exact h⟩⟩
theorem ue9 (hr : (Region.ready .any ol.toArray listed.toArray == []) = true) (h : K st) : lh P ol K D late b fuel listed st := by
 intro E0 w0 Q hQ E1 w1 a hev hs _
 have hr' : Region.ready .any ol.toArray listed.toArray = [] := by simpa using hr
 have hq := hQ a w1 st E1 hev hs h
 cases fuel with
 | zero => exact ⟨hr', hq⟩
 | succ n => exact ⟨fun _ => hq, fun i hi => by rw [hr'] at hi; cases hi⟩
theorem qi (is : List Nat) (hr : (Region.ready .any ol.toArray listed.toArray == is) = true) (hne : is ≠ []) (h : rr P ol K D late b fuel listed st is) : lh P ol K D late b (fuel + 1) listed st := by
 intro E0 w0 Q hQ E1 w1 a hev hs hb
 have hr' : Region.ready .any ol.toArray listed.toArray = is := by simpa using hr
 refine ⟨fun e => absurd (hr'.symm.trans e) hne, fun i hi => ?_⟩
 rw [hr'] at hi
 have hi' : wz P ol K D late b fuel listed i st := by
  clear hr hr' hne
  induction is with
  | nil => cases hi
  | cons j is ih =>
   rcases List.mem_cons.1 hi with rfl | hi
   ·exact h.1
   ·exact ih h.2 hi
 obtain ⟨o, hol, hg, hcase⟩ := hi'
 have ho : ol.toArray[i]? = some o := by simpa using hol
 have hset : listed.toArray.setIfInBounds i true = (listed.set i true).toArray := by simp
 refine wpOp_step ho fun Kr hK => ?_
 rw [if_pos (l3 hg hs)]
 rcases hcase with ⟨rfl, h1⟩ | ⟨hL, h1⟩
 ·refine h1 E1 w1 a hs Kr _ fun a' w' st' E' q1 q2 q3 => ?_
  have hk := tc hs q1 q2 q3.1
  refine hK a' w' ⟨.inr fun hS => ⟨fun b j hj => (q1.cell b j (Nat.lt_of_lt_of_le hj (hev.L b))).trans (hS.1 b j hj), fun n hn ver wv val b ht hb' => ?_⟩, ?_⟩
  ·have := hb rfl n hn
   exact ((hk n hn).2 ver wv val b (this.trans ht) hb').trans (hS.2 n hn ver wv val b ht hb')
  ·rw [hset]
   exact q3.2 E0 w0 Q hQ E' w' a' (hev.trans q1) q2 fun e n hn => (hk n hn).1.trans (hb rfl n hn)
 ·refine h1 E1 w1 a hs Kr _ fun a' w' st' E' q1 q2 q3 => ?_
  refine hK a' w' ⟨.inl hL, ?_⟩
  rw [hset]
  exact q3 E0 w0 Q hQ E' w' a' (hev.trans q1) q2 fun e => by cases e
theorem rp {total : Nat} (π : List (Nat × Option Nat)) (fuel : Nat) (listed' : List Bool)
  (hchk : (zb ol.toArray listed.toArray && (Region.noSelect ol.toArray && (mz ol.toArray late (fun _ => true) π listed.toArray && ((l4 π listed.toArray).toList == listed' && total == gr π + fuel)))) = true)
  (h : ju P ol.toArray (fun st' => n2 D st st' ∧ lh P ol K D late b fuel listed' st') [] late (fun _ => false) (fun _ => true) π st) : lh P ol K D late b total listed st := by
 simp only [Bool.and_eq_true, beq_iff_eq] at hchk
 obtain ⟨h0, h1, h2, h3, h4⟩ := hchk
 subst h4
 intro E0 w0 Q hQ E1 w1 a hev hs hb
 have hend : l4 π listed.toArray = listed'.toArray := by rw [← h3]
 refine ufh (S2 := Keeps E1 (· ∈ ([] : List Nat)) w1) (fun a' w' => iy P .any ol.toArray (jb Q) (Keeps E0 (· ∈ D) w0) late fuel listed'.toArray a' w') fuel h1 (fun _ _ _ _ _ h => h) π _ a w1 (ud7 h0) h2 (fun a' h' => by rw [hend]; exact h') ?_
 exact h E1 w1 _ (fun a' w' st' E' q1 q2 q3 => q3.2 E0 w0 Q hQ E' w' a' (hev.trans q1) q2 fun e n hn => ((tc hs q1 q2 q3.1) n hn).1.trans (hb e n hn)) a hs
theorem uer {id : Nat} {l : List Oper} {Q : Exit → St → Prop} (π : List (Nat × Option Nat)) (late N : Nat → Bool) (fuel : Nat) (listed : List Bool) (D : List Nat) (hm : P.follows .mixedOrders = true)
  (hchk : (qp l && (Region.noSelect l.toArray && (mz l.toArray late N π (Array.replicate l.toArray.size false) && ((l4 π (Array.replicate l.toArray.size false)).toList == listed && gr π + fuel == l.toArray.size)))) = true)
  (h : ju P l.toArray (fun st' => n2 D st st' ∧ lh P l (Q .normal) D late false fuel listed st') D late (fun _ => false) N π st) : AW ρ P (.region id l.toArray true) Q st := by
 intro E w a hs
 simp only [Bool.and_eq_true, beq_iff_eq] at hchk
 obtain ⟨h0, h1, h2, h3, h4⟩ := hchk
 have hev : Ev E w E w.drew := Ev.same ((Below.refl _ _).drew) rfl
 have hend : l4 π (Array.replicate l.toArray.size false) = listed.toArray := by rw [← h3]
 have key : iy P .any l.toArray (jb fun a' w' => ni E w Q .normal a' w') (Keeps E (· ∈ D) w.drew) late (gr π + fuel) (Array.replicate l.toArray.size false) a w.drew := by
  refine w4 (fun a' w' => iy P .any l.toArray (jb fun a' w' => ni E w Q .normal a' w') (Keeps E (· ∈ D) w.drew) late fuel listed.toArray a' w') fuel h1 (fun _ _ _ _ _ h => h) π _ a w.drew ?_ h2 (Keeps.refl _ _ _) (fun a' h' => by rw [hend]; exact h') ?_
  ·intro j o _ hj
   rw [Array.getD_eq_getD_getElem?, Array.getElem?_replicate] at hj
   split at hj <;> simp at hj
  ·exact h E w.drew _ (fun a' w' st' E' q1 q2 q3 => q3.2 E w.drew _ (fun a2 w2 st2 E2 r1 r2 r3 => ⟨st2, E2, hev.trans r1, r2, r3⟩) E' w' a' q1 q2 fun _ n hn => ((tc hs.drew q1 q2 q3.1) n hn).1) a hs.drew
 rw [h4] at key
 refine iq (Q := jb fun a' w' => ni E w Q .normal a' w') ?_ (za hm h0 (t6 _ _ _ _ key))
 intro e a' w' hq
 cases e with
 | normal => exact hq
 | _ => exact hq.elim
end
/-- Four objects that are changed. -/
theorem uah {g H : Nat → Option GObj} {a b c d : Nat} {oa ob oc od : GObj} (ha : H a = some oa) (hb : H b = some ob) (hc : H c = some oc) (hd : H d = some od) (h : ∀ n o, n ≠ a → n ≠ b → n ≠ c → n ≠ d → g n = some o → H n = some o) :
  ∀ n o, ai (ai (ai (ai g a oa) b ob) c oc) d od n = some o → H n = some o := by
 intro n o hn
 by_cases e1 : n = d
 ·subst e1; rw [jw] at hn; rw [hd]; exact hn
 ·rw [dc e1] at hn
  by_cases e2 : n = c
  ·subst e2; rw [jw] at hn; rw [hc]; exact hn
  ·rw [dc e2] at hn
   by_cases e3 : n = b
   ·subst e3; rw [jw] at hn; rw [hb]; exact hn
   ·rw [dc e3] at hn
    by_cases e4 : n = a
    ·subst e4; rw [jw] at hn; rw [ha]; exact hn
    ·rw [dc e4] at hn
     exact h n o e4 e3 e2 e1 hn
end Go.AB
namespace Go.AB
open Go Go.RowKit
section
variable {P : Program} {ol : List Oper} {K : St → Prop} {D : List Nat} {late : Nat → Bool}
theorem umq (I : List Bool → St → Prop) (stop : List Bool → Bool) (hf : tg ol = true) (hl : ∀ l st, I l st → l.length = ol.length) (hall : ∀ l st, I l st → (∀ i, i < ol.length → l[i]? = some true) → stop l = true)
  (hs : ∀ l st i o, I l st → stop l = false → ol[i]? = some o → l[i]? = some false → (∀ j ∈ mx o, l[j]? = some true) → fb ol.toArray st o = some true ∧ EStep P o st fun st' => n2 D st st' ∧ I (l.set i true) st')
  (he : ∀ l st, I l st → stop l = true → lh P ol K D late false (ng l) l st) : ∀ (fuel : Nat) (l : List Bool) (st : St), I l st → ng l = fuel → lh P ol K D late false fuel l st := by
 intro fuel
 induction fuel with
 | zero =>
  intro l st hI h0
  have hz : ∀ i, i < ol.length → l[i]? = some true := fun i hi => by
   have e := List.getElem?_eq_getElem (l := l) (i := i) (by rw [hl l st hI]; exact hi)
   cases hb : l[i]'(by rw [hl l st hI]; exact hi) with
   | true => rw [e, hb]
   | false => exact absurd (by rw [e, hb]) (ub5 h0 i)
  have := he l st hI (hall l st hI hz)
  rwa [h0] at this
 | succ fuel ih =>
  intro l st hI h0
  cases hst : stop l with
  | true =>
   have := he l st hI hst
   rwa [h0] at this
  | false =>
   cases h : Region.ready .any ol.toArray l.toArray with
   | nil => rw [hall l st hI (xo hf (hl l st hI) h)] at hst; cases hst
   | cons i is =>
    refine qi (i :: is) (by rw [h]; exact beq_self_eq_true _) (by simp) ?_
    have key : ∀ js : List Nat, (∀ j ∈ js, j ∈ Region.ready .any ol.toArray l.toArray) → rr P ol K D late false fuel l st js := by
     intro js
     induction js with
     | nil => intro _; trivial
     | cons j js ihj =>
      intro hjs
      refine ⟨?_, ihj fun k hk => hjs k (List.mem_cons_of_mem _ hk)⟩
      obtain ⟨o, ho, h2, h3⟩ := xp (hjs j (List.mem_cons_self ..)) (hl l st hI)
      have hn : ng (l.set j true) = fuel := by have := uy h2; omega
      obtain ⟨hg, hE⟩ := hs l st j o hI hst ho h2 h3
      exact ⟨o, ho, hg, .inl ⟨rfl, hE.mono fun st' h' => ⟨h'.1, ih _ _ h'.2 hn⟩⟩⟩
    exact key (i :: is) fun j hj => by rw [h]; exact hj
/-- A state whose slots stand in another order. -/
theorem ump {b : Bool} {fuel : Nat} {listed : List Bool} {st st' : St} (hn : st.n = st'.n) (hd : st.df = st'.df) (hA : ∀ i, bx st.l st.r i = bx st'.l st'.r i) (hG : st.G = st'.G) (hx : st.nx = st'.nx) (h : lh P ol K D late b fuel listed st') : lh P ol K D late b fuel listed st := by
 intro E0 w0 Q hQ E1 w1 a hev hs hb
 refine h E0 w0 Q hQ E1 w1 a hev ⟨hd ▸ hs.d, hn ▸ hs.sz, fun i v hv => ?_, ?_⟩ hb
 ·have := hs.t i v hv
  rwa [hA] at this
 ·have := hs.g
  rwa [hG, hx] at this
end
theorem qn {st st' : St} {n : Nat} {o : GObj} (h1 : st.G n = some o) (h2 : st'.G n = some o) : n2 [n] st st' := uay h1 h2 rfl uax
/-- whether an operation waits for another one -/
def pk (ol : List Oper) (i j : Nat) : Bool := ((ol[i]?).map fun o => (mx o).contains j).getD false
theorem rg {ol : List Oper} {i j : Nat} {o : Oper} (h : pk ol i j = true) (ho : ol[i]? = some o) : j ∈ mx o := by
 unfold pk at h
 rw [ho] at h
 simpa using h
/-- the slots, when so much came up: builds and appends of three lists -/
def adS (A0 : Nat → C) (c8 c9 c15 c16 c22 c23 : C) (b8 b9 b15 b16 b22 b23 : Bool) (i : Nat) : C :=
 bif b8 && Nat.beq 109 i then c8 else bif b9 && Nat.beq 110 i then c9 else bif b15 && Nat.beq 116 i then c15 else bif b16 && Nat.beq 117 i then c16 else bif b22 && Nat.beq 123 i then c22 else bif b23 && Nat.beq 124 i then c23 else A0 i
def adG (G0 G1 G2 G3 : Nat → Option GObj) (b9 b16 b23 : Bool) : Nat → Option GObj := bif b23 then G3 else bif b16 then G2 else bif b9 then G1 else G0
structure AdI (A0 : Nat → C) (c8 c9 c15 c16 c22 c23 : C) (G0 G1 G2 G3 : Nat → Option GObj) (nn df nx : Nat) (b8 b9 b15 b16 b22 b23 : Bool) (st : St) : Prop where
 n : st.n = nn
 df : st.df = df
 nx : st.nx = nx
 A : ∀ i, bx st.l st.r i = adS A0 c8 c9 c15 c16 c22 c23 b8 b9 b15 b16 b22 b23 i
 G : st.G = adG G0 G1 G2 G3 b9 b16 b23
 e9 : b9 = true → b8 = true
 e16 : b16 = true → b15 = true ∧ b9 = true
 e23 : b23 = true → b22 = true ∧ b16 = true
theorem kj {a b i : Nat} (h : Nat.beq a i = true) (hab : Nat.beq a b = false) : Nat.beq b i = false := by
 have := Nat.eq_of_beq_eq_true h
 subst this
 cases e : Nat.beq b a
 ·rfl
 ·have := Nat.eq_of_beq_eq_true e
  subst this
  rw [Nat.beq_refl] at hab; cases hab
end Go.AB
namespace Go.AB
open Go Go.RowKit
section
variable {A0 : Nat → C} {c8 c9 c15 c16 c22 c23 : C} {G0 G1 G2 G3 : Nat → Option GObj} {nn df nx : Nat} {b8 b9 b15 b16 b22 b23 : Bool} {st : St}
theorem AdI.cong {x : List (Nat × C)} {g g' : Nat → Option GObj} (e : g = g') (h : AdI A0 c8 c9 c15 c16 c22 c23 G0 G1 G2 G3 nn df nx b8 b9 b15 b16 b22 b23 { st with r := x, G := g' }) : AdI A0 c8 c9 c15 c16 c22 c23 G0 G1 G2 G3 nn df nx b8 b9 b15 b16 b22 b23 { st with r := x, G := g } := by
 subst e; exact h
theorem AdI.step8 (h : AdI A0 c8 c9 c15 c16 c22 c23 G0 G1 G2 G3 nn df nx false b9 b15 b16 b22 b23 st) (k9 : b9 = false) (k16 : b16 = false) (k23 : b23 = false) : AdI A0 c8 c9 c15 c16 c22 c23 G0 G1 G2 G3 nn df nx true b9 b15 b16 b22 b23 { st with r := (109, c8) :: st.r } := by
 subst k9
 subst k16
 subst k23
 exact {
  n := h.n
  df := h.df
  nx := h.nx
  A := fun i => by
   show (bif Nat.beq 109 i then _ else bx st.l st.r i) = _
   rw [h.A i]
   cases e : Nat.beq 109 i
   ·simp only [adS, e, Bool.and_false, Bool.false_and, cond_false]
   ·rw [← Nat.eq_of_beq_eq_true e]
    cases b15 <;> cases b22 <;> rfl
  G := h.G
  e9 := fun _ => rfl
  e16 := fun e => nomatch e
  e23 := fun e => nomatch e }
theorem AdI.step9 (h : AdI A0 c8 c9 c15 c16 c22 c23 G0 G1 G2 G3 nn df nx true false b15 b16 b22 b23 st) (k16 : b16 = false) (k23 : b23 = false) : AdI A0 c8 c9 c15 c16 c22 c23 G0 G1 G2 G3 nn df nx true true b15 b16 b22 b23 { st with r := (110, c9) :: st.r, G := G1 } := by
 subst k16
 subst k23
 exact {
  n := h.n
  df := h.df
  nx := h.nx
  A := fun i => by
   show (bif Nat.beq 110 i then _ else bx st.l st.r i) = _
   rw [h.A i]
   cases e : Nat.beq 110 i
   ·simp only [adS, e, Bool.and_false, Bool.false_and, cond_false]
   ·rw [← Nat.eq_of_beq_eq_true e]
    cases b15 <;> cases b22 <;> rfl
  G := rfl
  e9 := fun _ => rfl
  e16 := fun e => nomatch e
  e23 := fun e => nomatch e }
theorem AdI.step15 (h : AdI A0 c8 c9 c15 c16 c22 c23 G0 G1 G2 G3 nn df nx b8 b9 false b16 b22 b23 st) (k16 : b16 = false) (k23 : b23 = false) : AdI A0 c8 c9 c15 c16 c22 c23 G0 G1 G2 G3 nn df nx b8 b9 true b16 b22 b23 { st with r := (116, c15) :: st.r } := by
 subst k16
 subst k23
 exact {
  n := h.n
  df := h.df
  nx := h.nx
  A := fun i => by
   show (bif Nat.beq 116 i then _ else bx st.l st.r i) = _
   rw [h.A i]
   cases e : Nat.beq 116 i
   ·simp only [adS, e, Bool.and_false, Bool.false_and, cond_false]
   ·rw [← Nat.eq_of_beq_eq_true e]
    cases b8 <;> cases b9 <;> cases b22 <;> rfl
  G := h.G
  e9 := h.e9
  e16 := fun e => nomatch e
  e23 := fun e => nomatch e }
theorem AdI.step16 (h : AdI A0 c8 c9 c15 c16 c22 c23 G0 G1 G2 G3 nn df nx true true true false b22 b23 st) (k23 : b23 = false) : AdI A0 c8 c9 c15 c16 c22 c23 G0 G1 G2 G3 nn df nx true true true true b22 b23 { st with r := (117, c16) :: st.r, G := G2 } := by
 subst k23
 exact {
  n := h.n
  df := h.df
  nx := h.nx
  A := fun i => by
   show (bif Nat.beq 117 i then _ else bx st.l st.r i) = _
   rw [h.A i]
   cases e : Nat.beq 117 i
   ·simp only [adS, e, Bool.and_false, Bool.false_and, cond_false]
   ·rw [← Nat.eq_of_beq_eq_true e]
    cases b22 <;> rfl
  G := rfl
  e9 := fun _ => rfl
  e16 := fun _ => ⟨rfl, rfl⟩
  e23 := fun e => nomatch e }
theorem AdI.step22 (h : AdI A0 c8 c9 c15 c16 c22 c23 G0 G1 G2 G3 nn df nx b8 b9 b15 b16 false b23 st) (k23 : b23 = false) : AdI A0 c8 c9 c15 c16 c22 c23 G0 G1 G2 G3 nn df nx b8 b9 b15 b16 true b23 { st with r := (123, c22) :: st.r } := by
 subst k23
 exact {
  n := h.n
  df := h.df
  nx := h.nx
  A := fun i => by
   show (bif Nat.beq 123 i then _ else bx st.l st.r i) = _
   rw [h.A i]
   cases e : Nat.beq 123 i
   ·simp only [adS, e, Bool.and_false, Bool.false_and, cond_false]
   ·rw [← Nat.eq_of_beq_eq_true e]
    cases b8 <;> cases b9 <;> cases b15 <;> cases b16 <;> rfl
  G := h.G
  e9 := h.e9
  e16 := h.e16
  e23 := fun e => nomatch e }
theorem AdI.step23 (h : AdI A0 c8 c9 c15 c16 c22 c23 G0 G1 G2 G3 nn df nx true true true true true false st)  : AdI A0 c8 c9 c15 c16 c22 c23 G0 G1 G2 G3 nn df nx true true true true true true { st with r := (124, c23) :: st.r, G := G3 } := by
 exact {
  n := h.n
  df := h.df
  nx := h.nx
  A := fun i => by
   show (bif Nat.beq 124 i then _ else bx st.l st.r i) = _
   rw [h.A i]
   cases e : Nat.beq 124 i
   ·simp only [adS, e, Bool.and_false, Bool.false_and, cond_false]
   ·rw [← Nat.eq_of_beq_eq_true e]
    rfl
  G := rfl
  e9 := fun _ => rfl
  e16 := fun _ => ⟨rfl, rfl⟩
  e23 := fun _ => ⟨rfl, rfl⟩ }
end
/-- the flags, as the list of what came up -/
def adL (b8 b9 b15 b16 b22 b23 : Bool) : List Bool := [true, true, true, true, true, true, true, true, b8, b9, true, true, true, true, true, b15, b16, true, true, true, true, true, b22, b23, false, false, false, false, false, false, false, false, false]
theorem ux {a b : Bool} (h : a = true → b = true) (hb : b = false) : a = false := by
 cases a
 ·rfl
 ·rw [h rfl] at hb; cases hb
theorem qy {ops : Array Oper} {st : St} {o : Oper} (h1 : qx o.op = false) (h2 : o.guard = none) : fb ops st o = some true := by
 unfold fb te
 rw [h1, h2]; rfl
theorem ov {st : St} {i n : Nat} {c : C} (hn : st.n = n) (hi : Nat.blt i n = true) (h : bx st.l st.r i = c) : st.at i = c := by
 unfold St.at
 rw [hn, hi]; exact h
end Go.AB
namespace Go.Proofs.YtgffhbbcpgdjjaaDoor
set_option maxRecDepth 10000
open Go Go.RowKit Go.AB
open Go.AB.Enc (cells)
open Go.PB (PlaceD)
set_option maxHeartbeats 1000000 in
theorem ue7 (ws : List Int) (al bo : List (List PlaceD)) (w : Int) (fo bt : List PlaceD) (nB a1 a2 a3 : Nat) {ob : GObj} {ol : List Oper} {K : St → Prop} {late : Nat → Bool} (st0 : St) (hlen : ol.length = 33) (hf : tg ol = true) (hgd : (ol.all fun o => o.guard.isNone) = true)
  (hdp : (pk ol 9 8 && pk ol 16 15 && pk ol 16 9 && pk ol 23 22 && pk ol 23 16 && (List.range 9).all fun i => pk ol (24 + i) 23) = true)
  (q8 : (ol[8]?).map (fun o => (o.op, o.dst)) = some (.buildSlice 57 1 #[(0, .tmp 108)], some 109)) (q9 : (ol[9]?).map (fun o => (o.op, o.dst)) = some (.call { callee := .builtin .append, args := #[.tmp 107, .tmp 109], argTypes := #[57, 57] }, some 110))
  (q15 : (ol[15]?).map (fun o => (o.op, o.dst)) = some (.buildSlice 52 1 #[(0, .tmp 115)], some 116)) (q16 : (ol[16]?).map (fun o => (o.op, o.dst)) = some (.call { callee := .builtin .append, args := #[.tmp 114, .tmp 116], argTypes := #[52, 52] }, some 117))
  (q22 : (ol[22]?).map (fun o => (o.op, o.dst)) = some (.buildSlice 52 1 #[(0, .tmp 122)], some 123)) (q23 : (ol[23]?).map (fun o => (o.op, o.dst)) = some (.call { callee := .builtin .append, args := #[.tmp 121, .tmp 123], argTypes := #[52, 52] }, some 124))
  (hn : st0.n = 131) (h107 : bx st0.l st0.r 107 = .list (ws.map cells) (.tip a1)) (h108 : bx st0.l st0.r 108 = .v (.int .i64 w)) (h114 : bx st0.l st0.r 114 = .list (al.map cells) (.tip a2)) (h115 : bx st0.l st0.r 115 = lst fo) (h121 : bx st0.l st0.r 121 = .list (bo.map cells) (.tip a3)) (h122 : bx st0.l st0.r 122 = lst bt)
  (hB : st0.G nB = some ob) (hG1 : st0.G a1 = some (.tip ws.length 3 1)) (hG2 : st0.G a2 = some (.tip al.length 36 1)) (hG3 : st0.G a3 = some (.tip bo.length 36 1))
  (d1 : nB ≠ a1) (d2 : nB ≠ a2) (d3 : nB ≠ a3) (d4 : a1 ≠ a2) (d5 : a1 ≠ a3) (d6 : a2 ≠ a3) (lw : ws.length ≤ 100) (la : al.length ≤ 100) (lb : bo.length ≤ 100)
  (hK : lh Tryd.prog ol K [nB] late false 9 (adL true true true true true true) { st0 with r := (124, .list ((bo ++ [bt]).map cells) (.tip a3)) :: (123, .list [[lst bt]] .none) :: (117, .list ((al ++ [fo]).map cells) (.tip a2)) :: (116, .list [[lst fo]] .none) :: (110, .list ((ws ++ [w]).map cells) (.tip a1)) :: (109, .list [[.v (.int .i64 w)]] .none) :: st0.r, G := ai (ai (ai st0.G a1 (.tip (ws ++ [w]).length 3 1)) a2 (.tip (al ++ [fo]).length 36 1)) a3 (.tip (bo ++ [bt]).length 36 1) }) :
  lh Tryd.prog ol K [nB] late false 15 (adL false false false false false false) st0 := by
 have hop : ∀ {i : Nat} {o : Oper} {q : Op} {d : Option Tmp}, ol[i]? = some o → (ol[i]?).map (fun o => (o.op, o.dst)) = some (q, d) → o.op = q ∧ o.dst = d := fun {i o q d} h k => by
  rw [h] at k
  simp only [Option.map_some, Option.some.injEq, Prod.mk.injEq] at k
  exact k
 simp only [Bool.and_eq_true, List.all_eq_true, List.mem_range] at hdp
 obtain ⟨⟨⟨⟨⟨p1, p2⟩, p3⟩, p4⟩, p5⟩, p6⟩ := hdp
 obtain ⟨G1, hG1'⟩ : ∃ G1, ai st0.G a1 (.tip (ws ++ [w]).length 3 1) = G1 := ⟨_, rfl⟩
 obtain ⟨G2, hG2'⟩ : ∃ G2, ai G1 a2 (.tip (al ++ [fo]).length 36 1) = G2 := ⟨_, rfl⟩
 obtain ⟨G3, hG3'⟩ : ∃ G3, ai G2 a3 (.tip (bo ++ [bt]).length 36 1) = G3 := ⟨_, rfl⟩
 rw [hG1', hG2', hG3'] at hK
 have k1 : G1 a2 = some (.tip al.length 36 1) := by rw [← hG1', dc d4.symm]; exact hG2
 have k2 : G2 a3 = some (.tip bo.length 36 1) := by rw [← hG2', dc d6.symm, ← hG1', dc d5.symm]; exact hG3
 have m1 : G1 nB = some ob := by rw [← hG1', dc d1]; exact hB
 have m2 : G2 nB = some ob := by rw [← hG2', dc d2]; exact m1
 have m3 : G3 nB = some ob := by rw [← hG3', dc d3]; exact m2
 have mB : ∀ b9 b16 b23, adG st0.G G1 G2 G3 b9 b16 b23 nB = some ob := fun b9 b16 b23 => by
  cases b23 <;> cases b16 <;> cases b9 <;> assumption
 refine umq (fun l st => ∃ b8 b9 b15 b16 b22 b23, l = adL b8 b9 b15 b16 b22 b23 ∧ AdI (bx st0.l st0.r) (.list [[.v (.int .i64 w)]] .none) (.list ((ws ++ [w]).map cells) (.tip a1)) (.list [[lst fo]] .none) (.list ((al ++ [fo]).map cells) (.tip a2)) (.list [[lst bt]] .none) (.list ((bo ++ [bt]).map cells) (.tip a3)) st0.G G1 G2 G3 131 st0.df st0.nx b8 b9 b15 b16 b22 b23 st) (fun l => (l[23]?).getD false) hf ?_ ?_ ?_ ?_ 15 _ st0 ?_ rfl
 ·rintro l st ⟨b8, b9, b15, b16, b22, b23, rfl, h⟩
  rw [hlen]; rfl
 ·rintro l st ⟨b8, b9, b15, b16, b22, b23, rfl, h⟩ hall
  rw [hlen] at hall
  have := hall 23 (by omega)
  show ((adL b8 b9 b15 b16 b22 b23)[23]?).getD false = true
  rw [this]; rfl
 ·rintro l st i o ⟨b8, b9, b15, b16, b22, b23, rfl, h⟩ hst hi hoff hdeps
  have hb23 : b23 = false := hst
  subst hb23
  have hlt := (List.getElem?_eq_some_iff.1 hi).1
  rw [hlen] at hlt
  have hgo : o.guard = none := by
   have := List.all_eq_true.1 hgd o (List.mem_of_getElem? hi)
   simpa using this
  have hsB := h.G ▸ mB b9 b16 false
  have hcase : (i = 8 ∨ i = 9 ∨ i = 15 ∨ i = 16 ∨ i = 22 ∨ i = 23) ∨ 24 ≤ i ∨ i = 0 ∨ i = 1 ∨ i = 2 ∨ i = 3 ∨ i = 4 ∨ i = 5 ∨ i = 6 ∨ i = 7 ∨ i = 10 ∨ i = 11 ∨ i = 12 ∨ i = 13 ∨ i = 14 ∨ i = 17 ∨ i = 18 ∨ i = 19 ∨ i = 20 ∨ i = 21 := by omega
  rcases hcase with (rfl | rfl | rfl | rfl | rfl | rfl) | h24 | rfl | rfl | rfl | rfl | rfl | rfl | rfl | rfl | rfl | rfl | rfl | rfl | rfl | rfl | rfl | rfl | rfl | rfl
  ·obtain ⟨e1, e2⟩ := hop hi q8
   obtain rfl : b8 = false := Option.some.inj hoff
   refine ⟨qy (by rw [e1]; rfl) hgo, fh (rows := [[.v (.int .i64 w)]]) (parts := [(0, .tmp 108)]) e1 rfl ?_ (by decide) (by decide) (by simp) (by decide) ?_⟩
   ·show n9 [(0, st.at 108)] = _
    rw [ov (c := .v (.int .i64 w)) h.n rfl (by rw [h.A]; cases b9 <;> cases b15 <;> cases b16 <;> cases b22 <;> exact h108)]; rfl
   ·rw [e2]
    exact ⟨qn hsB hsB, true, b9, b15, b16, b22, false, rfl, h.step8 (ux h.e9 rfl) (ux (fun e => h.e9 (h.e16 e).2) rfl) rfl⟩
  ·obtain ⟨e1, e2⟩ := hop hi q9
   obtain rfl : b9 = false := Option.some.inj hoff
   obtain rfl : b8 = true := Option.some.inj (hdeps 8 (rg p1 hi))
   have hk16 : b16 = false := ux (fun e => (h.e16 e).2) rfl
   subst hk16
   have hG := h.G
   refine ⟨qy (by rw [e1]; rfl) hgo, jh [w] e1 (ov h.n rfl (by rw [h.A]; cases b15 <;> cases b22 <;> exact h107)) (by rw [hG]; exact hG1) rfl (ov (c := .list [[.v (.int .i64 w)]] .none) h.n rfl (by rw [h.A]; rfl)) rfl (by simp only [List.length_cons, List.length_nil]; omega) ?_ (by simp only [List.length_cons, List.length_nil]; omega)⟩
   rw [e2]
   have e3 : ai st.G a1 (.tip (ws ++ [w]).length 3 1) = G1 := by rw [hG]; exact hG1'
   refine ⟨qn hsB (by show ai st.G a1 _ nB = _; rw [dc d1]; exact hsB), true, true, b15, false, b22, false, rfl, ?_⟩
   exact (h.step9 rfl rfl).cong e3
  ·obtain ⟨e1, e2⟩ := hop hi q15
   obtain rfl : b15 = false := Option.some.inj hoff
   refine ⟨qy (by rw [e1]; rfl) hgo, fh (rows := [[lst fo]]) (parts := [(0, .tmp 115)]) e1 rfl ?_ (by decide) (by decide) (by simp) (by decide) ?_⟩
   ·show n9 [(0, st.at 115)] = _
    rw [ov (c := lst fo) h.n rfl (by rw [h.A]; cases b8 <;> cases b9 <;> cases b16 <;> cases b22 <;> exact h115)]; rfl
   ·rw [e2]
    exact ⟨qn hsB hsB, b8, b9, true, b16, b22, false, rfl, h.step15 (ux (fun e => (h.e16 e).1) rfl) rfl⟩
  ·obtain ⟨e1, e2⟩ := hop hi q16
   obtain rfl : b16 = false := Option.some.inj hoff
   obtain rfl : b15 = true := Option.some.inj (hdeps 15 (rg p2 hi))
   obtain rfl : b9 = true := Option.some.inj (hdeps 9 (rg p3 hi))
   obtain rfl : b8 = true := h.e9 rfl
   have hG := h.G
   refine ⟨qy (by rw [e1]; rfl) hgo, jh [fo] e1 (ov h.n rfl (by rw [h.A]; cases b22 <;> exact h114)) (by rw [hG]; exact k1) rfl (ov (c := .list [[lst fo]] .none) h.n rfl (by rw [h.A]; rfl)) rfl (by simp only [List.length_cons, List.length_nil]; omega) ?_ (by simp only [List.length_cons, List.length_nil]; omega)⟩
   rw [e2]
   have e3 : ai st.G a2 (.tip (al ++ [fo]).length 36 1) = G2 := by rw [hG]; exact hG2'
   refine ⟨qn hsB (by show ai st.G a2 _ nB = _; rw [dc d2]; exact hsB), true, true, true, true, b22, false, rfl, ?_⟩
   exact (h.step16 rfl).cong e3
  ·obtain ⟨e1, e2⟩ := hop hi q22
   obtain rfl : b22 = false := Option.some.inj hoff
   refine ⟨qy (by rw [e1]; rfl) hgo, fh (rows := [[lst bt]]) (parts := [(0, .tmp 122)]) e1 rfl ?_ (by decide) (by decide) (by simp) (by decide) ?_⟩
   ·show n9 [(0, st.at 122)] = _
    rw [ov (c := lst bt) h.n rfl (by rw [h.A]; cases b8 <;> cases b9 <;> cases b15 <;> cases b16 <;> exact h122)]; rfl
   ·rw [e2]
    exact ⟨qn hsB hsB, b8, b9, b15, b16, true, false, rfl, h.step22 rfl⟩
  ·obtain ⟨e1, e2⟩ := hop hi q23
   obtain rfl : b22 = true := Option.some.inj (hdeps 22 (rg p4 hi))
   obtain rfl : b16 = true := Option.some.inj (hdeps 16 (rg p5 hi))
   obtain rfl : b15 = true := (h.e16 rfl).1
   obtain rfl : b9 = true := (h.e16 rfl).2
   obtain rfl : b8 = true := h.e9 rfl
   have hG := h.G
   refine ⟨qy (by rw [e1]; rfl) hgo, jh [bt] e1 (ov h.n rfl (by rw [h.A]; exact h121)) (by rw [hG]; exact k2) rfl (ov (c := .list [[lst bt]] .none) h.n rfl (by rw [h.A]; rfl)) rfl (by simp only [List.length_cons, List.length_nil]; omega) ?_ (by simp only [List.length_cons, List.length_nil]; omega)⟩
   rw [e2]
   have e3 : ai st.G a3 (.tip (bo ++ [bt]).length 36 1) = G3 := by rw [hG]; exact hG3'
   refine ⟨qn hsB (by show ai st.G a3 _ nB = _; rw [dc d3]; exact hsB), true, true, true, true, true, true, rfl, ?_⟩
   exact (h.step23).cong e3
  ·have hm := hdeps 23 (rg (i := i) (by have := p6 (i - 24) (by omega); rwa [show 24 + (i - 24) = i by omega] at this) hi)
   cases hm
  all_goals (cases hoff)
 ·rintro l st ⟨b8, b9, b15, b16, b22, b23, rfl, h⟩ hst
  obtain rfl : b23 = true := hst
  obtain ⟨rfl, rfl⟩ := h.e23 rfl
  obtain ⟨rfl, rfl⟩ := h.e16 rfl
  obtain rfl := h.e9 rfl
  refine ump ?_ ?_ (fun i => ?_) ?_ ?_ hK
  ·exact h.n.trans hn.symm
  ·exact h.df
  rotate_left
  ·exact h.G
  ·exact h.nx
  rw [h.A i]
  unfold adS
  show (bif Nat.beq 109 i then _ else bif Nat.beq 110 i then _ else bif Nat.beq 116 i then _ else bif Nat.beq 117 i then _ else bif Nat.beq 123 i then _ else bif Nat.beq 124 i then _ else bx st0.l st0.r i) = (bif Nat.beq 124 i then _ else bif Nat.beq 123 i then _ else bif Nat.beq 117 i then _ else bif Nat.beq 116 i then _ else bif Nat.beq 110 i then _ else bif Nat.beq 109 i then _ else bx st0.l st0.r i)
  cases e1 : Nat.beq 109 i
  ·cases e2 : Nat.beq 110 i
   ·cases e3 : Nat.beq 116 i
    ·cases e4 : Nat.beq 117 i
     ·cases e5 : Nat.beq 123 i
      ·cases e6 : Nat.beq 124 i <;> rfl
      ·rw [kj e5 (b := 124) rfl]; rfl
     ·rw [kj e4 (b := 124) rfl, kj e4 (b := 123) rfl]; rfl
    ·rw [kj e3 (b := 124) rfl, kj e3 (b := 123) rfl, kj e3 (b := 117) rfl]; rfl
   ·rw [kj e2 (b := 124) rfl, kj e2 (b := 123) rfl, kj e2 (b := 117) rfl, kj e2 (b := 116) rfl]; rfl
  ·rw [kj e1 (b := 124) rfl, kj e1 (b := 123) rfl, kj e1 (b := 117) rfl, kj e1 (b := 116) rfl, kj e1 (b := 110) rfl]; rfl
 ·exact ⟨false, false, false, false, false, false, rfl, { n := hn, df := rfl, nx := rfl, A := fun _ => rfl, G := rfl, e9 := (fun e => nomatch e), e16 := (fun e => nomatch e), e23 := (fun e => nomatch e) }⟩
end Go.Proofs.YtgffhbbcpgdjjaaDoor
namespace Go.AB
open Go Go.RowKit
open Go.AB.Enc (cells)
section
variable {P : Program} {o : Oper} {st : St} {K : St → Prop}
/-- append to a slice without room: a copy, owned. -/
theorem ud3 {α : Type} [Enc α] {t e : TypeId} {bytes : Nat} [AppT P t e (Enc.n α) bytes] {s x : Operand} {tok tk : Tok} {rows : List (List C)} (ys : List α) (ho : o.op = .call { callee := .builtin .append, args := #[s, x], argTypes := #[t, t] }) (hs : evC st s = .list [] tok) (htok : tok = .zero ∨ tok = .nil) (hx : evC st x = .list rows tk) (hy : rows = ys.map cells) (hne : ys ≠ []) (hn : 1 ≤ Enc.n α) (hb : ys.length * bytes ≤ 140737488355328) (hm : ys.length ≤ 9223372036854775807)
  (h : K (St.put { st with G := ai st.G st.nx (.arr 0 0 e (Enc.n α) ys.length (ct ys)), nx := st.nx + 1 } o.dst (.own st.nx 0 ys.length))) : EStep P o st K :=
 ki fun E w a hsim => by
  subst hy
  obtain ⟨ht, i, z, hie, hz, h1, h2, h3⟩ := AppT.spec (P := P) (t := t) (e := e) (sz := Enc.n α) (bytes := bytes)
  obtain ⟨sa, cap, _, _, e1, _, _, _, _, _, _, _, z1, z2, _⟩ := (hs ▸ hsim.ev s).list_inv
  have hcap : cap = 0 := by
   rcases htok with h | h
   ·exact z2 h
   ·exact (z1 h).2
  subst hcap
  have hrl : (ys.map (cells (α := α))).length = ys.length := List.length_map _
  obtain ⟨ao, c, news, e2, hl, hnews, hr, hone, h1c⟩ := wu (hx ▸ hsim.ev x) (ma ys)
  rw [hrl] at e2 hl hnews
  have hy0 : ys.length ≠ 0 := fun e => hne (List.eq_nil_of_length_eq_zero e)
  obtain ⟨ad, rfl, hcells⟩ := hnews.resolve_left hy0
  have hl2 : news.length = ys.length * i.size := by rw [hl, h1]
  have key : ∃ nc, (Builtin.append_ #[t, t] o.type #[.slice sa 0 0, .slice (some ad) ys.length c]).run P w = .ok (.slice (some ⟨w.heap.size, 0, none⟩) ys.length nc) (w.drew.alloc (.cells (news.toArray ++ Builtin.zeroCells z.cells (nc - ys.length)) e)) ∧ ys.length ≤ nc ∧ nc ≤ maxLen := by
   refine ⟨grownCap w (0 + ys.length) 0 e, ?_, ?_, ?_⟩
   ·cases sa with
    | none =>
     have := run_append_nil (P := P) w t o.type e i z ht hie hz ad ys.length c news hl2 hcells (by omega) (by omega) (by rw [h2]; omega)
     simpa using this
    | some a0 =>
     have := run_append_grow (P := P) w t o.type e i z ht hie hz a0 0 0 [] (by simp) (by simp) ad ys.length c news hl2 hcells (by omega) (by omega) (growslice_fits (by omega) (by rw [h2]; simpa using hb))
     simpa using this
   ·have := grownCap_ge w (0 + ys.length) 0 e; omega
   ·exact grownCap_le_maxLen w (0 + ys.length) 0 e (by unfold maxLen; omega)
  obtain ⟨nc, hrun, hnc, hnm⟩ := key
  obtain ⟨ob, hob⟩ : ∃ ob, ob = Obj.cells (news.toArray ++ Builtin.zeroCells z.cells (nc - ys.length)) e := ⟨_, rfl⟩
  rw [← hob] at hrun
  have hev := Ev.laid hsim.g (o := ob) 0 (.inr rfl)
  have hg := SimG.laid hsim.g (o := ob) 0 (.inr rfl)
  have hnew : (w.drew.alloc ob).heap[w.heap.size]? = some ob := nj w.drew ob
  have hsz : (w.drew.alloc ob).heap.size = w.heap.size + 1 := by simp
  have hold : ∀ n tt b, (E.lay w.heap.size 0).T n = some tt → blk tt.2.2 = some b → b < w.heap.size := fun n tt b h5 h6 => (hsim.g.tb n _ _ _ b h5 h6).2
  have hnx := hsim.g.nx
  have hfr : ∀ b o', blk (.slice (some ⟨w.heap.size, 0, none⟩) ys.length nc) = some b → w.heap[b]? = some o' → False := fun b o' hbk ho' => by
   simp only [blk, Option.some.injEq] at hbk
   subst hbk
   have := (Array.getElem?_eq_some_iff.1 ho').1
   omega
  have hev2 := hev.thenName (.slice (some ⟨w.heap.size, 0, none⟩) ys.length nc) hfr
  have hg2 := SimG.name hg (.slice (some ⟨w.heap.size, 0, none⟩) ys.length nc) (.arr 0 0 e (Enc.n α) ys.length (ct ys)) (fun b hbk => by
   simp only [blk, Option.some.injEq] at hbk
   subst hbk
   exact ⟨hsim.g.base, by rw [hsz]; omega, fun n tt h5 h6 => absurd (hold n tt _ h5 h6) (by omega)⟩) (by
   refine ⟨.slice (some ⟨w.heap.size, 0, none⟩) ys.length nc, news, ?_, ⟨hl, .inr ⟨w.heap.size, nc, _, rfl, hsim.g.base, hnew.trans (by rw [hob]), hnc, hnm, ?_, ?_⟩⟩, fun c hc => ?_, hr.ev hev2, fun b hbk => ?_, hn⟩
   ·simp [Env.name, Env.lay, hnx]
   ·simp only [Array.size_append, List.size_toArray, size_zeroCells, hl]
    rw [h3, ← Nat.add_mul]
    congr 1
    omega
   ·simp only [Array.toList_append]
    rw [List.take_append_of_le_length (by simp [hl]), List.take_of_length_le (by simp [hl])]
   ·obtain ⟨r, hr1, hr2⟩ := List.mem_flatten.1 hc
    exact hone r hr1 c hr2
   ·simp only [blk, Option.some.injEq] at hbk
    subst hbk
    simp [Env.name, Env.lay])
  refine ⟨.slice (some ⟨w.heap.size, 0, none⟩) ys.length nc, w.drew.alloc ob, _, _, _, .own st.nx 0 ys.length, ?_, hev2, ?_, hg2, h⟩
  ·simp only [execOp, ho, resolve, invoke, builtin, Sem.run_bind, Sem.run_pure, Result.andThen_ok, List.map_toArray, List.map_cons, List.map_nil, e1, e2]
   simp only [List.length_nil]
   rw [hrun]; rfl
  ·refine R.own (by simp [Env.name, Env.lay]; omega) hnc hnm fun ver wv val htt => ?_
   simp only [Env.name, Env.lay, hnx, if_true, Option.some.injEq, Prod.mk.injEq] at htt
   obtain ⟨rfl, rfl, rfl⟩ := htt
   exact ⟨Nat.le_refl _, fun _ => ⟨_, Nat.le_refl _, rfl⟩⟩
end
/-- A function that gives nothing back ends. -/
theorem udp {P : Program} {st : St} {fn : Func} {G : Nat → Option GObj} {nx : Nat} {e : Exit} (hf : fn.results = #[]) (he : e = .normal ∨ e = .ret) (hn : nx ≤ st.nx) (hG : ∀ n o, G n = some o → st.G n = some o) : pq P fn (.tup []) G nx e st := by
 have : o5 P fn st (.tup []) := fun E w a _ => ⟨_, results_none hf _ _ _, R.undef E w⟩
 rcases he with rfl | rfl
 ·exact ⟨this, hn, hG⟩
 ·exact ⟨this, hn, hG⟩
end Go.AB
namespace Go.AB
open Go Go.RowKit
open Go.Maps (Keyed)
section
variable {P : Program} {k t e : TypeId} {w : World} {r : Nat} {es : Array MapEntry} {clock : Nat}
end
section
variable {P : Program} {o : Oper} {st : St} {K : St → Prop} {α : Type} [KeyV α]
end
/-- Three numbers. -/
instance : KeyV Go.PB.PlaceD where
 kv x := .agg #[.int .i64 x.ch, .int .i64 x.ln, .int .i64 x.wd]
 kc x := .agg [.v (.int .i64 x.ch), .v (.int .i64 x.ln), .v (.int .i64 x.wd)]
 inv h := by
  obtain ⟨vs, rfl, h1, _⟩ := h.agg_inv
  match vs, h1 with
  | [a, b, c], h1 =>
   have e1 := (h1.2 0 _ _ rfl rfl).v_inv
   have e2 := (h1.2 1 _ _ rfl rfl).v_inv
   have e3 := (h1.2 2 _ _ rfl rfl).v_inv
   subst e1; subst e2; subst e3; rfl
  | [], h => exact absurd h.1 (by simp)
  | [_], h => exact absurd h.1 (by simp)
  | [_, _], h => exact absurd h.1 (by simp)
  | _ :: _ :: _ :: _ :: _, h => exact absurd h.1 (by simp)
 inj h := by
  rename_i x y
  obtain ⟨a, b, c⟩ := x
  obtain ⟨d, e, f⟩ := y
  simpa using h
 any {E w x v} h E' w' := by
  obtain ⟨vs, rfl, h1, _⟩ := h.agg_inv
  match vs, h1 with
  | [a, b, c], h1 =>
   have e1 := h1.2 0 _ _ rfl rfl
   have e2 := h1.2 1 _ _ rfl rfl
   have e3 := h1.2 2 _ _ rfl rfl
   cases e1 with | v e1 =>
   cases e2 with | v e2 =>
   cases e3 with | v e3 =>
   exact (Rs.cons (.v e1) (Rs.cons (.v e2) (Rs.cons (.v e3) Rs.nil))).agg (by intro c hc; simp only [List.mem_cons, List.not_mem_nil, or_false] at hc; rcases hc with rfl | rfl | rfl <;> rfl)
  | [], h => exact absurd h.1 (by simp)
  | [_], h => exact absurd h.1 (by simp)
  | [_, _], h => exact absurd h.1 (by simp)
  | _ :: _ :: _ :: _ :: _, h => exact absurd h.1 (by simp)
end Go.AB
namespace Go.AB
open Go Go.RowKit
open Go.PB (ay ak PlaceD bi bk bj)
def uc9 (P : Program) (k u : TypeId) : Bool := match P.underlying k with
 | some (.struct fs) => (match fs.toList with
  | [a, b, c] => a.type == u && b.type == u && c.type == u && a.offset == 0 && b.offset == 1 && c.offset == 2 && fs.all (·.name != "_")
  | _ => false)
 | _ => false
theorem key3 {P : Program} {k u : TypeId} (h : uc9 P k u = true) (hu : P.underlying u = some (.int .i64)) (h3 : P.cellsOf k = 3) (h1 : P.cellsOf u = 1) (hk : P.keyType k = true) (hm : ∃ m, P.types.size = m + 3) {x y z : Int} (hx : (Lit.int .i64 x).wf = true) (hy : (Lit.int .i64 y).wf = true) (hz : (Lit.int .i64 z).wf = true) : ∃ l, keyOf P k (.agg #[.int .i64 x, .int .i64 y, .int .i64 z]) = some l := by
 obtain ⟨m, hm⟩ := hm
 unfold uc9 at h
 split at h
 ·rename_i fs hfs
  split at h
  ·rename_i a b c habc
   simp only [Bool.and_eq_true, beq_iff_eq] at h
   obtain ⟨⟨⟨⟨⟨⟨e1, e2⟩, e3⟩, e4⟩, e5⟩, e6⟩, e7⟩ := h
   have hf : (Value.agg #[.int .i64 x, .int .i64 y, .int .i64 z]).formed P k = true := by simp [Value.formed, hfs, h3]
   refine ⟨.string (keyBytes [.int .i64 x, .int .i64 y, .int .i64 z]), ?_⟩
   unfold keyOf
   rw [hfs]
   simp only [hk, hf, Bool.and_self, if_true]
   have hl : P.keyLits (P.types.size + 1) k (Value.agg #[.int .i64 x, .int .i64 y, .int .i64 z]).cells.toList = some [.int .i64 x, .int .i64 y, .int .i64 z] := by
    rw [hm]
    unfold Program.keyLits
    simp only [hfs, h3, h1, e1, e2, e3, e4, e5, e6, e7, habc, Value.cells]
    unfold Program.keyLits
    simp [hu, h1, e1, e2, e3, e4, e5, e6, hx, hy, hz]
   rw [hl]
   rfl
  ·cases h
 ·cases h
end Go.AB
namespace Go.Proofs.YtgffhbbcpgdjjaaDoor
set_option maxRecDepth 10000
open Go Go.RowKit Go.AB
open Go.PB (ay ak PlaceD bi bk bj)
theorem uib : Go.Maps.Keyed Tryd.prog 54 := Go.Maps.Keyed.of_law (deep_law_laid ym (m := 2) (by omega) (of_decide_eq_true (by kernel_rfl)) (by kernel_rfl) (by kernel_rfl))
instance : KeyT Tryd.prog 54 PlaceD where
 keyed := uib
 has {E w x v} h := by
  obtain ⟨vs, rfl, h1, _⟩ := R.agg_inv h
  match vs, h1 with
  | [a, b, c], h1 => exact key3 (u := 3) (by kernel_rfl) w6 (by kernel_rfl) (by kernel_rfl) (by kernel_rfl) ujx (vk (vt (h1.2 0 _ _ rfl rfl))) (vk (vt (h1.2 1 _ _ rfl rfl))) (vk (vt (h1.2 2 _ _ rfl rfl)))
  | [], h => exact absurd h.1 (by simp)
  | [_], h => exact absurd h.1 (by simp)
  | [_, _], h => exact absurd h.1 (by simp)
  | _ :: _ :: _ :: _ :: _, h => exact absurd h.1 (by simp)
end Go.Proofs.YtgffhbbcpgdjjaaDoor
namespace Go.AB
open Go Go.RowKit
open Go.AB.Enc (cells)
open Go.PB (ay ak PlaceD bi bk bj bz av aq cy cx dp dm)
/-- who is found, as a map -/
def gw (f : PlaceD → Bool) : PlaceD → Option C := fun q => bif f q then some (.v (.bool true)) else none
theorem ubz (f : PlaceD → Bool) (q : PlaceD) : (gw f q).getD (ou (.bool false)) = .v (.bool (f q)) := by
 unfold gw
 cases f q <;> rfl
theorem ui5 : gw (fun q => decide (q ∈ ([] : List PlaceD))) = fun _ => none := by funext q; simp [gw]
theorem ui6 {F : List PlaceD} {k : Nat} {q : PlaceD} (h : F[k]? = some q) : kg (gw fun x => decide (x ∈ F.take k)) q (.v (.bool true)) = gw fun x => decide (x ∈ F.take (k + 1)) := by
 funext x
 unfold kg gw
 have hm : decide (x ∈ F.take (k + 1)) = (decide (x ∈ F.take k) || decide (x = q)) := by
  rw [List.take_add_one, h, Option.toList_some, Bool.eq_iff_iff]; simp
 dsimp only
 by_cases e : x = q
 ·rw [hm, decide_eq_true e, Bool.or_true, if_pos e]; rfl
 rw [hm, decide_eq_false e, Bool.or_false, if_neg e]
theorem uby {F W : List PlaceD} (hW : W.Nodup) {k : Nat} {q : PlaceD} (h : W[k]? = some q) (hq : q ∈ F) : p9 (gw (gm F (W.take k))) q = gw (gm F (W.take (k + 1))) := by
 funext x
 unfold p9 gw
 rw [ub0 hW h x]
 by_cases e : x = q
 ·rw [if_pos e, decide_eq_true e, decide_eq_true hq]; rfl
 rw [if_neg e, decide_eq_false e]; rfl
theorem ubx {F W : List PlaceD} (hW : W.Nodup) {k : Nat} {q : PlaceD} (h : W[k]? = some q) (hq : q ∉ F) : kg (gw (gm F (W.take k))) q (.v (.bool true)) = gw (gm F (W.take (k + 1))) := by
 funext x
 unfold kg gw
 rw [ub0 hW h x]
 by_cases e : x = q
 ·rw [if_pos e, decide_eq_true e, decide_eq_false hq]; rfl
 rw [if_neg e, decide_eq_false e]; rfl
theorem onceM_ne {f : PlaceD → Bool} {q : PlaceD} : gw f q ≠ none ↔ f q = true := by
 unfold gw
 cases f q <;> simp
theorem x7 {f : PlaceD → Bool} {q : PlaceD} {c : C} (h : gw f q = some c) : c = .v (.bool true) := by
 unfold gw at h
 cases hf : f q <;> rw [hf] at h
 ·cases h
 cases h; rfl
theorem na (f : PlaceD → Bool) (n : Nat) : ∀ x c, gw f x = some c → C.low n c := fun x c h => by rw [x7 h]; exact .v
def sx (ks done : List PlaceD) : Nat := (ks.filter fun y => decide (y ∉ done)).length
theorem ucu {ks done : List PlaceD} {y : PlaceD} (hy : y ∈ ks) (hn : y ∉ done) : sx ks (done ++ [y]) < sx ks done := by
 unfold sx
 induction ks with
 | nil => cases hy
 | cons z ks ih =>
  have hle : (ks.filter fun y' => decide (y' ∉ done ++ [y])).length ≤ (ks.filter fun y' => decide (y' ∉ done)).length := by
   rw [← List.countP_eq_length_filter, ← List.countP_eq_length_filter]
   refine List.countP_mono_left fun a _ ha => ?_
   simp only [decide_eq_true_eq, List.mem_append, not_or] at ha ⊢
   exact ha.1
  by_cases e : z = y
  ·subst e
   rw [List.filter_cons_of_neg (by simp), List.filter_cons_of_pos (by simpa using hn)]
   simp only [List.length_cons]
   omega
  have hy' : y ∈ ks := by
   rcases List.mem_cons.1 hy with h | h
   ·exact absurd h.symm e
   exact h
  have := ih hy'
  by_cases hz : z ∈ done
  ·rw [List.filter_cons_of_neg (by simp [hz]), List.filter_cons_of_neg (by simp [hz])]
   exact this
  rw [List.filter_cons_of_pos (by simp [hz, e]), List.filter_cons_of_pos (by simp [hz])]
  simp only [List.length_cons]
  omega
theorem uef {p : aq} {x : av} {q : PlaceD} {k : Nat} {last : Int} (hp : n4 p last x) (hB : fe p.text x = []) (hq : x.well[k]? = some q) : q ∉ x.found := fun hf => by
 have : q ∈ fe p.text x := by
  show q ∈ (dt p.text).filter _
  rw [List.mem_filter, Bool.and_eq_true, decide_eq_true_eq, decide_eq_true_eq, allQ_mem]
  exact ⟨(mw hp.found hf).1, hf, List.mem_of_getElem? hq⟩
 rw [hB] at this; cases this
theorem ubu {p : PlaceD → Prop} : Ord3 p l8 := by
 have key : ∀ a b, l8 a b < 0 ↔ ltW (dl a) (dl b) := fun a b => ny (by rfl)
 refine ⟨fun x _ => ?_, fun x y z _ _ _ h k => ?_, fun x y z _ _ _ h k => ?_⟩
 ·rw [key]; exact pd _
 ·rw [key] at h k ⊢; exact qv h k
 rw [key] at h k ⊢
 intro hxz
 by_cases h1 : ltW (dl y) (dl x)
 ·exact k (qv h1 hxz)
 rw [yj (a := dl x) (b := dl y) rfl h h1] at hxz; exact k hxz
def PBd9 (q : PlaceD) : Prop := (0 ≤ q.ch ∧ q.ch ≤ 100000) ∧ (0 ≤ q.ln ∧ q.ln ≤ 100000) ∧ 0 ≤ q.wd ∧ q.wd ≤ 100000
theorem PBd9.plain {a : PlaceD} (h : PBd9 a) : Plain (cells a) := fun c hc => by
 obtain ⟨h1, h2, h3⟩ := h
 have hc' : c ∈ [C.v (.int .i64 a.ch), C.v (.int .i64 a.ln), C.v (.int .i64 a.wd)] := hc
 simp only [List.mem_cons, List.not_mem_nil, or_false] at hc'
 rcases hc' with rfl | rfl | rfl
 ·exact ⟨_, rfl, kr (by omega)⟩
 ·exact ⟨_, rfl, kr (by omega)⟩
 exact ⟨_, rfl, kr (by omega)⟩
theorem ubn {t : ak} (ht : dv t = true) {q : PlaceD} (h : f9 t q = true) : PBd9 q := by
 obtain ⟨l, hw, hw1, hw2⟩ := placeB_true.1 h
 have := t8 ht hw
 exact ⟨by omega, by omega, by omega, by omega⟩
theorem ubv {p : aq} {x : av} {last : Int} (hp : n4 p last x) {q : PlaceD} (h : gm x.found x.well q = true) : f9 p.text q = true := by
 unfold gm at h
 by_cases h1 : q ∈ x.found
 ·exact (mw hp.found h1).1
 by_cases h2 : q ∈ x.well
 ·exact (mw hp.well h2).1
 simp [h1, h2] at h
theorem ubw {p : aq} {x : av} {last : Int} (hp : n4 p last x) (ht : dv p.text = true) {done : List PlaceD} (h : ∀ q ∈ done, gm x.found x.well q = true) : ∀ q ∈ done, PBd9 q := fun q hq => ubn ht (ubv hp (h q hq))
theorem ul4 {p : aq} {x : av} {last : Int} (_ : n4 p last x) (ht : dv p.text = true) {q : PlaceD} (h : q ∈ fe p.text x) : PBd9 q := by
 have : q ∈ (dt p.text).filter _ := h
 exact ubn ht (allQ_mem.1 (List.mem_filter.1 this).1)
theorem uv {p : aq} {x : av} {last : Int} (hp : n4 p last x) {done : List PlaceD} (hn : done.Nodup) (h : ∀ q ∈ done, gm x.found x.well q = true) : done.length ≤ (dt p.text).length :=
 ub7 hn fun q hq => allQ_mem.2 (ubv hp (h q hq))
section
variable {P : Program} {o : Oper} {st : St} {K : St → Prop}
/-- A slice that is nil is nil. -/
theorem ula {t t' e : TypeId} [Elt P t e] {x : Operand} {rows : List (List C)} (ho : o.op = .binOp .eql t x (.const (.slice none 0 0)) t') (hx : evC st x = .list rows .nil) (h : K (st.put o.dst (.v (.bool true)))) : EStep P o st K :=
 ki fun E w a hsim => by
  have hr := hx ▸ hsim.ev x
  obtain ⟨ad, cap, _, _, hv, h1, _, _, _, _, _, h7, z1, _⟩ := R.list_inv hr
  obtain ⟨rfl, rfl⟩ := z1 rfl
  have q1 := Elt.spec (P := P) (t := t) (e := e)
  refine ⟨.bool true, w, E, st.G, st.nx, .v (.bool true), ?_, Ev.refl E w, .v rfl, hsim.g, h⟩
  have hq := run_equal_slice_nil (P := P) w t e none rows.length 0 q1
  have he2 : a.eval (.const (.slice none 0 0)) = .slice none 0 0 := rfl
  simp [execOp, ho, hv, he2, eqGuard, binOp, hq]
/-- .. one in which something is, is not. -/
theorem udz {t t' e : TypeId} [Elt P t e] {x : Operand} {rows : List (List C)} {tok : Tok} (hne : rows ≠ []) (ho : o.op = .binOp .eql t x (.const (.slice none 0 0)) t') (hx : evC st x = .list rows tok) (h : K (st.put o.dst (.v (.bool false)))) : EStep P o st K :=
 ud0 ho hx fun b hb => by rw [hb hne]; exact h
end
end Go.AB
namespace Go.Proofs.YtgffhbbcpgdjjaaDoor
set_option maxRecDepth 10000
open Go Go.RowKit Go.AB
open Go.AB.Enc (cells)
open Go.PB (ay ak PlaceD bi bk bj bz av aq cy cx dp dm)
instance : Ty Tryd.prog (srt_Place_ren.t 24) true (Enc.n PlaceD) := inferInstanceAs (Ty Tryd.prog 54 true 3)
theorem ulo : Pure Tryd.prog 91 [.list [] .nil] (.list [] .nil) := by
 refine cz Tryd.func91 rfl (fun m => (.list (fun r hr => by cases hr) (fun k hk => by cases hk))) fun G nx => ?_
 simp only [Tryd.ntmps91, List.length_cons, List.length_nil, Nat.reduceAdd, Nat.reduceSub]
 refine ci fun hlt => ?_
 dsimp only at hlt
 refine yS fun _ K1 => ?_
 refine yR ?_
 refine yA rfl rfl ?_
 refine yN ?_
 dsimp only [St.put]
 refine K1 _ ?_
 refine yS fun _ K2 => ?_
 refine yS fun _ K3 => ?_
 refine yR ?_
 refine yM rfl rfl ?_
 refine aj rfl (ula rfl rfl ?_)
 refine yN ?_
 dsimp only [St.put]
 refine K3 _ ?_
 refine ar rfl (fun hc => ?_) (fun hc => ?_)
 ·try replace hc := of_decide_eq_true hc
  refine yS fun _ K4 => ?_
  refine yR ?_
  refine yA rfl rfl ?_
  refine yN ?_
  dsimp only [St.put]
  refine K4 _ ?_
  refine aw ?_
  refine bg rfl (by constructor) zN zS ?_
  rfl
 try replace hc := of_decide_eq_false hc
 refine ax ?_
 refine K2 _ ?_
 refine yS fun _ K5 => ?_
 refine yR ?_
 try dsimp only [St.put]
 refine aj rfl (tq rfl ?_)
 refine yM rfl rfl ?_
 try dsimp only [St.put]
 refine aj rfl (wc rfl rfl (.inl rfl) rfl (show 1 ≤ 3 by decide) (fun r hr => by cases hr) (by simp) (by simp) ?_)
 refine yA rfl rfl ?_
 refine yN ?_
 dsimp only [St.put]
 refine K5 _ ?_
 refine aw ?_
 exact absurd hc (by decide)
theorem uln (l : List PlaceD) (hne : l ≠ []) (hl : l.length ≤ 1000) (G : Nat → Option GObj) (nx : Nat) : PC Tryd.prog 91 [lst l] G nx fun r G' nx' => r = .own nx 0 l.length ∧ G' = ai G nx (.arr 0 0 54 3 l.length (ct l)) ∧ nx' = nx + 1 := by
 refine oe (ai G nx (.arr 0 0 54 3 l.length (ct l))) (nx + 1) Tryd.func91 rfl (.own (Nat.lt_succ_self _)) zN (fun hlt => (by (repeat' (refine mb ?_ (by (try dsimp only); omega) ?_)); all_goals (first | exact mc zS | (repeat' (first | exact trivial | refine ⟨?_, ?_⟩ | exact .v | exact .any | refine .elem ?_ | exact cg _ _ | exact gd _ _ | exact fa _ _ | exact gg _ (by (try dsimp only); omega) | exact .box (by (try dsimp only); omega) | exact fp | exact eg | exact fg _ | refine gi ?_ ?_ | exact .arr (by (try dsimp only); omega) | exact .own (by (try dsimp only); omega) | exact .map (by (try dsimp only); omega) | exact fg _ | refine dd ?_ ?_ | exact cg _ _))))) ?_
 simp only [Tryd.ntmps91, List.length_cons, List.length_nil, Nat.reduceAdd, Nat.reduceSub]
 refine ci fun hlt => ?_
 dsimp only at hlt
 refine yS fun _ K1 => ?_
 refine yR ?_
 refine yA rfl rfl ?_
 refine yN ?_
 dsimp only [St.put]
 refine K1 _ ?_
 refine yS fun _ K2 => ?_
 refine yS fun _ K3 => ?_
 refine yR ?_
 refine yM rfl rfl ?_
 refine aj rfl (udz (fun e => hne (by simpa using e)) rfl rfl ?_)
 refine yN ?_
 dsimp only [St.put]
 refine K3 _ ?_
 refine ar rfl (fun hc => ?_) (fun hc => ?_)
 ·try replace hc := of_decide_eq_true hc
  refine yS fun _ K4 => ?_
  refine yR ?_
  refine yA rfl rfl ?_
  refine yN ?_
  dsimp only [St.put]
  refine K4 _ ?_
  refine aw ?_
  exact absurd hc (by decide)
 try replace hc := of_decide_eq_false hc
 refine ax ?_
 refine K2 _ ?_
 refine yS fun _ K5 => ?_
 refine yR ?_
 try dsimp only [St.put]
 refine aj rfl (tq rfl ?_)
 refine yM rfl rfl ?_
 try dsimp only [St.put]
 refine aj rfl (ud3 l rfl rfl (.inl rfl) rfl rfl hne (by decide) (by omega) (by omega) ?_)
 refine yA rfl rfl ?_
 refine yN ?_
 dsimp only [St.put]
 refine K5 _ ?_
 refine aw ?_
 refine bg rfl (by constructor) zN zS ?_
 rfl
set_option maxHeartbeats 4000000 in
theorem umo (p : aq) (last : Int) (x : av) (ws : List Int) (al bo : List (List PlaceD)) (nB a1 a2 a3 V : Nat) (ht : dv p.text = true) (hp : n4 p last x) (hw : ws.length ≤ 100) (ha : al.length ≤ 100) (hb : bo.length ≤ 100) (G : Nat → Option GObj) (nx : Nat) (hN : nB < nx) (h1 : a1 < nx) (h2 : a2 < nx) (h3 : a3 < nx) (d1 : nB ≠ a1) (d2 : nB ≠ a2) (d3 : nB ≠ a3) (d4 : a1 ≠ a2) (d5 : a1 ≠ a3) (d6 : a2 ≠ a3)
  (hGB : G nB = some (((.box (V) [lst p.text, lst p.firsts, lst p.seconds, lst p.pages, .list ((ws).map cells) (.tip a1), .list ((al).map cells) (.tip a2), .list ((bo).map cells) (.tip a3)])))) (hG1 : G a1 = some (.tip ws.length 3 1)) (hG2 : G a2 = some (.tip al.length 36 1)) (hG3 : G a3 = some (.tip bo.length 36 1)) :
  PC Tryd.prog 70 [.box nB 0 0, val x, lst (mn p.text p.text.length)] G nx fun r' G' nx' => r' = .tup [] ∧ G' = ai (ai (ai (ai G nB (((.box ((V + 1 + 1 + 1)) [lst p.text, lst p.firsts, lst p.seconds, lst p.pages, .list (((ws ++ [(f8 p.text x : Int)])).map cells) (.tip a1), .list (((al ++ [ei p.text x])).map cells) (.tip a2), .list (((bo ++ [fe p.text x])).map cells) (.tip a3)])))) a1 (.tip (ws ++ [(f8 p.text x : Int)]).length 3 1)) a2 (.tip (al ++ [ei p.text x]).length 36 1)) a3 (.tip (bo ++ [fe p.text x]).length 36 1) ∧ nx' = nx := by
 refine oe (ai (ai (ai (ai G nB (((.box ((V + 1 + 1 + 1)) [lst p.text, lst p.firsts, lst p.seconds, lst p.pages, .list (((ws ++ [(f8 p.text x : Int)])).map cells) (.tip a1), .list (((al ++ [ei p.text x])).map cells) (.tip a2), .list (((bo ++ [fe p.text x])).map cells) (.tip a3)])))) a1 (.tip (ws ++ [(f8 p.text x : Int)]).length 3 1)) a2 (.tip (al ++ [ei p.text x]).length 36 1)) a3 (.tip (bo ++ [fe p.text x]).length 36 1)) (nx) Tryd.func70 rfl (.tup eg) zN (fun hlt => zH) ?_
 simp only [Tryd.ntmps70, List.length_cons, List.length_nil, Nat.reduceAdd, Nat.reduceSub]
 refine ci fun hlt => ?_
 dsimp only at hlt
 obtain ⟨hl1, hl2, hl3⟩ := lj ht
 have hal := n1 ht
 have hnd1 := xf (v8 hp.found)
 have hnd2 := xf (v8 hp.well)
 have hfl := nw hp.found
 have hwl := nw hp.well
 have hbl := ul5 p.text x
 have hgl := rb p.text x
 have hwx := ua p.text x
 have hwt : ∀ (f : PlaceD → Bool) (l : List PlaceD), (l.filter f).length ≤ l.length := fun f l => List.length_filter_le f l
 have hstl := uam p.text p.text.length
 have hmw : x.well.take x.well.length = x.well := List.take_length
 refine yS fun _ K1 => ?_
 refine yR ?_
 try dsimp only [St.put]
 refine yB rfl rfl rfl ?_
 refine yN ?_
 dsimp only [St.put]
 refine K1 _ ?_
 refine yS fun _ K2 => ?_
 refine yR ?_
 refine yA rfl rfl ?_
 refine yN ?_
 dsimp only [St.put]
 rw [show (0 : Int) = ((gh p.text x (dt (p.text.take 0)) : Nat) : Int) from rfl]
 refine K2 _ ?_
 refine yS fun _ K3 => ?_
 refine yS fun _ K4 => ?_
 refine yR ?_
 refine yM rfl rfl ?_
 refine aa rfl (kx rfl rfl) ?_
 refine aa rfl (cv rfl rfl) ?_
 refine aa rfl (cv rfl rfl) ?_
 refine aa rfl (cv rfl rfl) ?_
 try dsimp only [St.put]
 refine af rfl (c7 rfl rfl zG trivial (by first | rfl | assumption)) ?_
 refine aa rfl (ba rfl rfl (List.length_map _)) ?_
 refine yM rfl rfl ?_
 refine yN ?_
 dsimp only [St.put]
 refine K4 _ ?_
 refine az ?_
 refine ck 27 ?_
 refine zQ ?_
 refine c5 (X := Nat) (fun k => k ≤ p.text.length) (fun k => p.text.length - k) (fun k => [(6, .v (.int .i64 ((gh p.text x (dt (p.text.take k)) : Nat) : Int))), (7, .any), (8, .any), (9, .any), (10, .any), (26, .v (.int .i64 (k : Int)))]) (fun k G' => G') 0 rfl ?_ ?_ (fun _ _ h => h) ?_ ?_ ?_
 ·exact Nat.zero_le _
 ·exact zF
 ·rintro k hI
  exact zL
 ·exact fun _ _ _ _ h => .inl h
 rintro k hI
 dsimp only at hI ⊢
 refine yS fun _ K5 => ?_
 refine yR ?_
 refine aa rfl (cj rfl rfl rfl) ?_
 refine yN ?_
 dsimp only [St.put]
 refine K5 _ ?_
 refine yS fun _ K6 => ?_
 refine ar rfl (fun hc => ?_) (fun hc => ?_)
 ·replace hc := of_decide_eq_true hc
  obtain ⟨c, hcx⟩ : ∃ c, p.text[k]? = some c := da (by omega)
  have hll := (hl3 c (fq hcx)).2.1
  have hwo := (hl3 c (fq hcx)).2.2
  have hst := uan (t := p.text) (k := p.text.length) (i := k) (by omega)
  have hsb := ug ht k (by omega)
  refine ax ?_
  refine K6 _ ?_
  refine yS fun _ K7 => ?_
  refine az ?_
  refine yS fun _ K8 => ?_
  refine yR ?_
  refine yM rfl rfl ?_
  refine aa rfl (bn rfl rfl rfl rfl (bp (by assumption)) (Enc.len _)) ?_
  refine yE rfl rfl rfl ?_
  try dsimp only [St.put]
  refine aj rfl (eb rfl ?_)
  refine yA rfl rfl ?_
  try dsimp only [St.put]
  refine aj rfl (dj rfl rfl rfl zG rfl rfl (by rfl) ?_)
  refine yN ?_
  dsimp only [St.put]
  refine K8 _ ?_
  refine gt (i := 8) rfl zG zC ?_
  dsimp only
  refine yS fun _ K9 => ?_
  refine yR ?_
  refine yF rfl rfl rfl rfl ?_
  refine yL rfl rfl rfl ?_
  refine aa rfl (ba rfl rfl (List.length_map _)) ?_
  refine yM rfl rfl ?_
  refine yN ?_
  dsimp only [St.put]
  rw [ue2 p.text k c.lines]
  refine K9 _ ?_
  refine az ?_
  refine ck 35 ?_
  refine zQ ?_
  refine c5 (X := Nat) (fun n => n ≤ c.lines.length) (fun n => c.lines.length - n) (fun n => [(6, .v (.int .i64 ((gh p.text x (gy p.text k c.lines n) : Nat) : Int))), (9, .any), (10, .any), (34, .v (.int .i64 (n : Int)))]) (fun n G' => G') 0 rfl ?_ ?_ (fun _ _ h => h) ?_ ?_ ?_
  ·exact Nat.zero_le _
  ·exact zF
  ·rintro n hI
   exact zL
  ·exact fun _ _ _ _ h => .inl h
  rintro n hJ
  dsimp only at hJ ⊢
  refine yS fun _ K10 => ?_
  refine yR ?_
  refine aa rfl (cj rfl rfl rfl) ?_
  refine yN ?_
  dsimp only [St.put]
  refine K10 _ ?_
  refine yS fun _ K11 => ?_
  refine ar rfl (fun hc => ?_) (fun hc => ?_)
  ·replace hc := of_decide_eq_true hc
   obtain ⟨l, hn⟩ : ∃ l, c.lines[n]? = some l := da (by omega)
   have hlb := hwo l (fq hn)
   have hqb : gh p.text x (gy p.text k c.lines n) ≤ 600 := by
    have hle := ue1 ht hcx hn 0
    rw [← ue0] at hle
    have := hwt (fw p.text x) (gy p.text k c.lines n)
    unfold gh
    omega
   refine ax ?_
   refine K11 _ ?_
   refine yS fun _ K12 => ?_
   refine az ?_
   refine yS fun _ K13 => ?_
   refine yR ?_
   refine yM rfl rfl ?_
   refine aa rfl (bn rfl rfl rfl rfl (bp (by assumption)) (Enc.len _)) ?_
   refine yL rfl rfl rfl ?_
   refine yA rfl rfl ?_
   refine yA rfl rfl ?_
   refine yN ?_
   dsimp only [St.put]
   refine K13 _ ?_
   refine yS fun _ K14 => ?_
   refine fm [(0, none), (1, none), (2, none), (3, none), (4, none), (5, none), (6, none), (7, none), (8, none), (9, none), (10, none), (11, none)] (fun i => [11].contains i) (fun i => [10, 11].contains i) (fun i => [0, 2, 4, 5, 6, 8, 9].contains i) [] (by kernel_rfl) (by kernel_rfl) ?_
   refine ae rfl rfl rfl rfl (bw rfl rfl rfl) ?_
   try dsimp only [St.put]
   refine ah rfl rfl rfl rfl (bf rfl rfl) ?_
   refine ae rfl rfl rfl rfl (bw rfl rfl rfl) ?_
   try dsimp only [St.put]
   refine ah rfl rfl rfl rfl (bf rfl rfl) ?_
   refine xM rfl rfl rfl rfl rfl ?_
   refine xM rfl rfl rfl rfl rfl ?_
   try dsimp only [St.put]
   refine ae rfl rfl rfl rfl (bn rfl rfl rfl rfl (bp (by assumption)) (Enc.len _)) ?_
   try dsimp only [St.put]
   refine ah rfl rfl rfl rfl (bf rfl rfl) ?_
   refine xM rfl rfl rfl rfl rfl ?_
   refine ae rfl rfl rfl rfl (bu rfl rfl rfl (by omega)) ?_
   refine il ?_
   try dsimp only [St.put]
   refine ib rfl rfl rfl (fh rfl rfl rfl (by decide) (by decide) zR (by decide) ⟨zD, ?_⟩)
   try dsimp only [St.put]
   refine fy rfl rfl rfl rfl (bq rfl rfl rfl (o8 _ _ [_]) ?_)
   refine ij ?_
   dsimp only [St.put]
   refine K14 _ ?_
   refine ar rfl (fun hc => ?_) (fun hc => ?_)
   ·have hpg : inB ((ge p.text k : Int) + (n : Int)) x.fr x.to = true := by rw [ia] at hc; exact hc
    refine yR ?_
    refine yM rfl rfl ?_
    refine yM rfl rfl ?_
    refine aa rfl (ba rfl rfl (List.length_map _)) ?_
    refine aa rfl (bu rfl rfl rfl (by omega)) ?_
    refine yA rfl rfl ?_
    refine yN ?_
    dsimp only [St.put]
    refine K12 _ ?_
    refine yR ?_
    refine aa rfl (bu rfl rfl rfl (by omega)) ?_
    refine yM rfl rfl ?_
    refine yN ?_
    dsimp only [St.put]
    have e := uaa p.text x (k := k) hn
    first
    | (rw [hpg, cond_true] at e
       rw [show ((gh p.text x (gy p.text k c.lines n) : Nat) : Int) + (l.length : Int) = ((gh p.text x (gy p.text k c.lines (n + 1)) : Nat) : Int) by rw [e]; rfl]
       exact ⟨n + 1, by omega, by omega, ⟨⟨rfl, rfl⟩, zF, zB, zN, zX⟩⟩)
    | (rw [hpn, cond_false] at e
       rw [show gh p.text x (gy p.text k c.lines n) = gh p.text x (gy p.text k c.lines (n + 1)) from e.symm]
       exact ⟨n + 1, by omega, by omega, ⟨⟨rfl, rfl⟩, zF, zB, zN, zX⟩⟩)
   have hpn : inB ((ge p.text k : Int) + (n : Int)) x.fr x.to = false := by rw [ia] at hc; exact hc
   refine ax ?_
   refine K12 _ ?_
   refine yR ?_
   refine aa rfl (bu rfl rfl rfl (by omega)) ?_
   refine yM rfl rfl ?_
   refine yN ?_
   dsimp only [St.put]
   have e := uaa p.text x (k := k) hn
   first
   | (rw [hpg, cond_true] at e
      rw [show ((gh p.text x (gy p.text k c.lines n) : Nat) : Int) + (l.length : Int) = ((gh p.text x (gy p.text k c.lines (n + 1)) : Nat) : Int) by rw [e]; rfl]
      exact ⟨n + 1, by omega, by omega, ⟨⟨rfl, rfl⟩, zF, zB, zN, zX⟩⟩)
   | (rw [hpn, cond_false] at e
      rw [show gh p.text x (gy p.text k c.lines n) = gh p.text x (gy p.text k c.lines (n + 1)) from e.symm]
      exact ⟨n + 1, by omega, by omega, ⟨⟨rfl, rfl⟩, zF, zB, zN, zX⟩⟩)
  replace hc := of_decide_eq_false hc
  refine cw ?_
  refine K7 _ ?_
  refine yR ?_
  refine aa rfl (bu rfl rfl rfl (by omega)) ?_
  refine yM rfl rfl ?_
  refine yN ?_
  dsimp only [St.put]
  rw [ue3 (n := n) hcx (by omega)]
  exact ⟨k + 1, by omega, by omega, ⟨⟨rfl, rfl⟩, zF, zB, zN, zX⟩⟩
 replace hc := of_decide_eq_false hc
 obtain rfl : k = p.text.length := by omega
 rw [List.take_length, ufo]
 refine cw ?_
 refine K3 _ ?_
 refine yS fun _ K15 => ?_
 refine yR ?_
 try dsimp only [St.put]
 refine aj rfl (y7 (α := PlaceD) rfl ?_)
 refine yA rfl rfl ?_
 refine yN ?_
 dsimp only [St.put]
 refine K15 _ ?_
 refine yS fun _ K16 => ?_
 refine yS fun _ K17 => ?_
 refine yR ?_
 refine yF rfl rfl rfl rfl ?_
 refine yL rfl rfl rfl ?_
 refine aa rfl (ba rfl rfl (List.length_map _)) ?_
 refine yM rfl rfl ?_
 refine yN ?_
 dsimp only [St.put]
 refine K17 _ ?_
 refine az ?_
 refine ck 62 ?_
 refine zQ ?_
 refine c6 ((ai G nx (ix Tryd.prog 54 (0) ((fun _ => none))))) zX ?_
 dsimp only
 refine c5 (X := Nat) (fun k => k ≤ x.found.length) (fun k => x.found.length - k) (fun k => [(13, .any), (61, .v (.int .i64 (k : Int)))]) (fun k G' => (ai G nx (ix Tryd.prog 54 (k) ((gw fun q => decide (q ∈ x.found.take k)))))) 0 rfl ?_ ?_ ?_ ?_ ?_ ?_
 ·exact Nat.zero_le _
 ·exact zF
 ·rw [show (gw fun q => decide (q ∈ x.found.take 0)) = fun _ => none from ui5]
  exact zX
 ·rintro k hI
  exact (by (try dsimp only); repeat' (first | exact trivial | refine ⟨?_, ?_⟩ | exact .v | exact .any | refine .elem ?_ | exact cg _ _ | exact gd _ _ | exact fa _ _ | exact gg _ (by (try dsimp only); omega) | exact .box (by (try dsimp only); omega) | exact fp | exact eg | exact iw (na _ _) | refine gi ?_ ?_ | exact .arr (by (try dsimp only); omega) | exact .own (by (try dsimp only); omega) | exact .map (by (try dsimp only); omega) | exact fg _ | refine dd ?_ ?_ | exact cg _ _))
 ·rintro k hI
  exact (by (repeat' (refine mb ?_ (by (try dsimp only); omega) ?_)); all_goals (first | exact mc zS | (repeat' (first | exact trivial | refine ⟨?_, ?_⟩ | exact .v | exact .any | refine .elem ?_ | exact cg _ _ | exact gd _ _ | exact fa _ _ | exact gg _ (by (try dsimp only); omega) | exact .box (by (try dsimp only); omega) | exact fp | exact eg | exact iw (na _ _) | refine gi ?_ ?_ | exact .arr (by (try dsimp only); omega) | exact .own (by (try dsimp only); omega) | exact .map (by (try dsimp only); omega) | exact fg _ | refine dd ?_ ?_ | exact cg _ _))))
 rintro k hK
 dsimp only at hK ⊢
 refine yS fun _ K18 => ?_
 refine yR ?_
 refine aa rfl (cj rfl rfl rfl) ?_
 refine yN ?_
 dsimp only [St.put]
 refine K18 _ ?_
 refine yS fun _ K19 => ?_
 refine ar rfl (fun hc => ?_) (fun hc => ?_)
 ·replace hc := of_decide_eq_true hc
  obtain ⟨q, hq⟩ : ∃ q, x.found[k]? = some q := da (by omega)
  refine ax ?_
  refine K19 _ ?_
  refine yS fun _ K20 => ?_
  refine az ?_
  refine yS fun _ K21 => ?_
  refine yR ?_
  refine aa rfl (bn rfl rfl rfl rfl (bp (by assumption)) (Enc.len _)) ?_
  refine yE rfl rfl rfl ?_
  try dsimp only [St.put]
  refine aj rfl (eb rfl ?_)
  try dsimp only [St.put]
  refine aj rfl (dj rfl rfl rfl zG rfl rfl (by rfl) ?_)
  refine yN ?_
  dsimp only [St.put]
  refine K21 _ ?_
  refine gt (i := 13) rfl zG zC ?_
  dsimp only
  refine yR ?_
  refine yM rfl rfl ?_
  refine yE rfl rfl rfl ?_
  try dsimp only [St.put]
  refine aj rfl (tn (q) rfl rfl rfl zG rfl (ui6 hq) ?_)
  refine yN ?_
  dsimp only [St.put]
  refine K20 _ ?_
  refine yR ?_
  refine aa rfl (bu rfl rfl rfl (by omega)) ?_
  refine yM rfl rfl ?_
  refine yN ?_
  dsimp only [St.put]
  exact ⟨k + 1, by omega, by omega, ⟨⟨rfl, rfl⟩, zF, zB, zN, zX⟩⟩
 replace hc := of_decide_eq_false hc
 obtain rfl : k = x.found.length := by omega
 rw [List.take_length, show (fun q => decide (q ∈ x.found)) = gm x.found (x.well.take 0) from funext fun q => (ui7 x.found q).symm]
 refine cw ?_
 refine K16 _ ?_
 refine yS fun _ K22 => ?_
 by_cases hB : fe p.text x = []
 ·refine yR ?_
  refine yA rfl rfl ?_
  refine yN ?_
  dsimp only [St.put]
  refine K22 _ ?_
  refine yS fun _ K23 => ?_
  refine yS fun _ K24 => ?_
  refine yR ?_
  refine yF rfl rfl rfl rfl ?_
  refine yL rfl rfl rfl ?_
  refine aa rfl (ba rfl rfl (List.length_map _)) ?_
  refine yM rfl rfl ?_
  refine yN ?_
  dsimp only [St.put]
  refine K24 _ ?_
  refine az ?_
  refine ck 72 ?_
  refine zQ ?_
  refine c6 ((ai G nx (ix Tryd.prog 54 (x.found.length) ((gw (gm x.found (x.well.take 0))))))) zX ?_
  dsimp only
  refine c5 (X := Nat) (fun k => k ≤ x.well.length) (fun k => x.well.length - k) (fun k => [(16, .any), (71, .v (.int .i64 (k : Int)))]) (fun k G' => (ai G nx (ix Tryd.prog 54 ((x.found.length + k)) ((gw (gm x.found (x.well.take k))))))) 0 rfl ?_ ?_ ?_ ?_ ?_ ?_
  ·exact Nat.zero_le _
  ·exact zF
  ·exact zX
  ·rintro k hI
   exact (by (try dsimp only); repeat' (first | exact trivial | refine ⟨?_, ?_⟩ | exact .v | exact .any | refine .elem ?_ | exact cg _ _ | exact gd _ _ | exact fa _ _ | exact gg _ (by (try dsimp only); omega) | exact .box (by (try dsimp only); omega) | exact fp | exact eg | exact iw (na _ _) | refine gi ?_ ?_ | exact .arr (by (try dsimp only); omega) | exact .own (by (try dsimp only); omega) | exact .map (by (try dsimp only); omega) | exact fg _ | refine dd ?_ ?_ | exact cg _ _))
  ·rintro k hI
   exact (by (repeat' (refine mb ?_ (by (try dsimp only); omega) ?_)); all_goals (first | exact mc zS | (repeat' (first | exact trivial | refine ⟨?_, ?_⟩ | exact .v | exact .any | refine .elem ?_ | exact cg _ _ | exact gd _ _ | exact fa _ _ | exact gg _ (by (try dsimp only); omega) | exact .box (by (try dsimp only); omega) | exact fp | exact eg | exact iw (na _ _) | refine gi ?_ ?_ | exact .arr (by (try dsimp only); omega) | exact .own (by (try dsimp only); omega) | exact .map (by (try dsimp only); omega) | exact fg _ | refine dd ?_ ?_ | exact cg _ _))))
  rintro k hK
  dsimp only at hK ⊢
  refine yS fun _ K25 => ?_
  refine yR ?_
  refine aa rfl (cj rfl rfl rfl) ?_
  refine yN ?_
  dsimp only [St.put]
  refine K25 _ ?_
  refine yS fun _ K26 => ?_
  refine ar rfl (fun hc => ?_) (fun hc => ?_)
  ·replace hc := of_decide_eq_true hc
   obtain ⟨q, hq⟩ : ∃ q, x.well[k]? = some q := da (by omega)
   have hbt := ueh x.found x.well k
   refine ax ?_
   refine K26 _ ?_
   refine yS fun _ K27 => ?_
   refine az ?_
   refine yS fun _ K28 => ?_
   refine yR ?_
   refine aa rfl (bn rfl rfl rfl rfl (bp (by assumption)) (Enc.len _)) ?_
   refine yE rfl rfl rfl ?_
   try dsimp only [St.put]
   refine aj rfl (eb rfl ?_)
   try dsimp only [St.put]
   refine aj rfl (dj rfl rfl rfl zG rfl rfl (by rfl) ?_)
   refine yN ?_
   dsimp only [St.put]
   refine K28 _ ?_
   refine gt (i := 16) rfl zG zC ?_
   dsimp only
   refine yS fun _ K29 => ?_
   refine yR ?_
   refine yM rfl rfl ?_
   refine yE rfl rfl rfl ?_
   try dsimp only [St.put]
   refine af rfl (um q rfl rfl zG trivial rfl (ubz _ _)) ?_
   refine yN ?_
   dsimp only [St.put]
   refine K29 _ ?_
   refine ar rfl (fun hc => ?_) (fun hc => ?_)
   ·have hin : q ∈ x.found := by
     rw [uw hnd2 hq] at hc
     exact of_decide_eq_true hc
    refine yS fun _ K30 => ?_
    refine yR ?_
    refine yM rfl rfl ?_
    refine yE rfl rfl rfl ?_
    try dsimp only [St.put]
    refine aj rfl (fh rfl rfl rfl (by decide) (by decide) zR (by decide) ?_)
    try dsimp only [St.put]
    refine aj rfl (wc rfl rfl (.inr rfl) rfl (show 1 ≤ 3 by decide) (fun r hr => by rw [List.mem_singleton] at hr; subst hr; rfl) (by simp) (by simp) ?_)
    refine yA rfl rfl ?_
    refine yN ?_
    dsimp only [St.put]
    refine K30 _ ?_
    refine yR ?_
    refine yM rfl rfl ?_
    refine yE rfl rfl rfl ?_
    try dsimp only [St.put]
    refine aj rfl (ud1 q rfl rfl zG rfl (uby hnd2 hq hin) ?_)
    refine yN ?_
    dsimp only [St.put]
    refine K27 _ ?_
    refine yR ?_
    refine aa rfl (bu rfl rfl rfl (by omega)) ?_
    refine yM rfl rfl ?_
    refine yN ?_
    dsimp only [St.put]
    first
    | exact absurd (show q ∈ x.found from hin) (uef hp hB hq)
    | exact ⟨k + 1, by omega, by omega, ⟨⟨rfl, rfl⟩, zF, zB, zN, zX⟩⟩
   have hout : q ∉ x.found := by
    rw [uw hnd2 hq] at hc
    exact of_decide_eq_false hc
   refine yR ?_
   refine yM rfl rfl ?_
   refine yE rfl rfl rfl ?_
   try dsimp only [St.put]
   refine aj rfl (tn (q) rfl rfl rfl zG rfl (ubx hnd2 hq hout) ?_)
   refine yN ?_
   dsimp only [St.put]
   refine K27 _ ?_
   refine yR ?_
   refine aa rfl (bu rfl rfl rfl (by omega)) ?_
   refine yM rfl rfl ?_
   refine yN ?_
   dsimp only [St.put]
   first
   | exact absurd (show q ∈ x.found from hin) (uef hp hB hq)
   | exact ⟨k + 1, by omega, by omega, ⟨⟨rfl, rfl⟩, zF, zB, zN, zX⟩⟩
  replace hc := of_decide_eq_false hc
  obtain rfl : k = x.well.length := by omega
  refine cw ?_
  refine K23 _ ?_
  refine yS fun _ K31 => ?_
  refine yR ?_
  refine yM rfl rfl ?_
  try dsimp only [St.put]
  refine aj rfl (bq rfl rfl rfl (ulo) ?_)
  refine yA rfl rfl ?_
  refine yN ?_
  dsimp only [St.put]
  refine K31 _ ?_
  refine ueu 17 54 3 rfl (by decide) ?_
  dsimp only
  refine yS fun _ K32 => ?_
  refine yS fun _ K33 => ?_
  refine yR ?_
  refine yM rfl rfl ?_
  try dsimp only [St.put]
  refine aj rfl (udx rfl rfl zG fun r β cl ks hnd hks0 hinj => ?_)
  refine yN ?_
  dsimp only [St.put]
  refine K33 _ ?_
  rw [hmw] at hks0
  rw [hmw]
  refine az ?_
  refine ck 91 ?_
  refine zQ ?_
  refine c6 (ai (ai (ai (ai G nx (oq Tryd.prog 54 (x.found.length + x.well.length) (gw (gm x.found x.well)) β cl)) (nx + 1) (.arr 0 0 54 3 0 [])) (nx + 1 + 1) (.raw 0 (.mapIter (some r) cl (jl β ([] : List PlaceD)) cl))) (nx + 1 + 1 + 1) (.fact (.map (some r)) (.map nx))) zX ?_
  dsimp only
  refine c5 (X := List PlaceD × Nat × Nat × Nat) (fun y => (∀ z ∈ y.1, z ∈ ks) ∧ y.1.Nodup) (fun y => sx ks y.1) (fun y => [(17, .own (nx + 1) y.2.2.1 (([] : List PlaceD) ++ y.1).length), (18, .any)]) (fun y G' => (ai (ai (ai (ai G nx (oq Tryd.prog 54 ((x.found.length + x.well.length)) (gw ((gm x.found x.well))) β cl)) ((nx + 1)) (.arr y.2.2.1 y.2.2.2 54 3 ((([] : List PlaceD) ++ y.1)).length (ct ((([] : List PlaceD) ++ y.1))))) ((nx + 1 + 1)) (.raw y.2.1 (.mapIter (some r) cl (jl β y.1) cl))) ((nx + 1 + 1 + 1)) (.fact (.map (some r)) (.map nx)))) ([], 0, 0, 0) rfl ?_ ?_ ?_ ?_ ?_ ?_
  ·exact ⟨fun z hz => by simp at hz, List.nodup_nil⟩
  ·exact zF
  ·exact zX
  ·rintro ⟨done, wi, vl, wv⟩ hI
   exact (by (try dsimp only); repeat' (first | exact trivial | refine ⟨?_, ?_⟩ | exact .v | exact .any | refine .elem ?_ | exact cg _ _ | exact gd _ _ | exact fa _ _ | exact gg _ (by (try dsimp only); omega) | exact .box (by (try dsimp only); omega) | exact fp | exact eg | exact vx (na _ _) | exact fg _ | refine gi ?_ ?_ | exact .arr (by (try dsimp only); omega) | exact .own (by (try dsimp only); omega) | exact .map (by (try dsimp only); omega) | exact fg _ | refine dd ?_ ?_ | exact cg _ _))
  ·rintro ⟨done, wi, vl, wv⟩ hI
   exact (by (repeat' (refine mb ?_ (by (try dsimp only); omega) ?_)); all_goals (first | exact mc zS | (repeat' (first | exact trivial | refine ⟨?_, ?_⟩ | exact .v | exact .any | refine .elem ?_ | exact cg _ _ | exact gd _ _ | exact fa _ _ | exact gg _ (by (try dsimp only); omega) | exact .box (by (try dsimp only); omega) | exact fp | exact eg | exact vx (na _ _) | exact fg _ | refine gi ?_ ?_ | exact .arr (by (try dsimp only); omega) | exact .own (by (try dsimp only); omega) | exact .map (by (try dsimp only); omega) | exact fg _ | refine dd ?_ ?_ | exact cg _ _))))
  rintro ⟨done, wi, vl, wv⟩ hI8
  dsimp only at hI8 ⊢
  refine yS fun _ K34 => ?_
  refine yR ?_
  try dsimp only [St.put]
  refine aj rfl (udy (done := done) rfl rfl zG zG zG (hks0) (hinj) (hI8.1) (fun hend => ?_) (fun y c hym hyk hyd => ?_))
  ·have hdl := uv hp hI8.2 (fun q hq => onceM_ne.1 ((hks0 q).2 (hI8.1 q hq)))
   have hdk : ∀ q, q ∈ done ↔ gm x.found x.well q = true := fun q => ⟨fun hq => onceM_ne.1 ((hks0 q).2 (hI8.1 q hq)), fun hq => hend q ((hks0 q).1 (onceM_ne.2 hq))⟩
   have hpb := ubw hp ht (fun q hq => (hdk q).1 hq)
   refine yX rfl rfl rfl rfl ?_
   refine yN ?_
   dsimp only [St.put]
   refine K34 _ ?_
   refine yS fun _ K35 => ?_
   refine ar rfl (fun h => by cases h) (fun _ => ?_)
   refine cw ?_
   refine K32 _ ?_
   refine yS fun _ K36 => ?_
   have hpb2 : ∀ y ∈ ([] : List PlaceD) ++ done, PBd9 y := fun y hy => hpb y (by simpa using hy)
   refine yR ?_
   refine yM rfl rfl ?_
   try dsimp only [St.put]
   refine aj rfl (udw uaq PBd9 l8 rfl rfl rfl rfl zG rfl rfl rfl (fun y hy => hy.plain) hpb2 (by first | (rw [List.length_append]; omega) | (simp only [List.nil_append]; omega)) (fun a b _ _ => xx a b _ _) ubu (fun ys hperm hsort => ?_))
   refine yN ?_
   dsimp only [St.put]
   have hlen := hperm.length_eq
   rw [← hB] at hperm hlen
   obtain rfl := uez hp hI8.2 hdk hperm hsort
   refine K36 _ ?_
   refine tu 14 (lst ([] : List PlaceD)) rfl Wk.tok ?_
   refine zm 17 (ei p.text x) rfl zG rfl rfl (by rw [hlen, hB]) ?_
   dsimp only
   refine uer [(0, none), (1, none), (2, none), (3, none), (4, none), (5, none), (6, none), (7, none), (10, none), (11, none), (12, none), (13, none), (14, none), (17, none), (18, none), (19, none), (20, none), (21, none)] (fun i => [23, 26, 29, 32].contains i) (fun i => [0, 1, 2, 3, 4, 5, 7, 10, 11, 12, 14, 17, 18, 19, 21].contains i) 15 (rl [8, 2, 5, 2, 5, 11]) [nB] (by kernel_rfl) (by kernel_rfl) ?_
   refine xM rfl rfl rfl rfl rfl ?_
   refine xM rfl rfl rfl rfl rfl ?_
   refine xM rfl rfl rfl rfl rfl ?_
   refine xM rfl rfl rfl rfl rfl ?_
   refine ae rfl rfl rfl rfl (kx rfl rfl) ?_
   refine ae rfl rfl rfl rfl (cv rfl rfl) ?_
   try dsimp only [St.put]
   refine ah rfl rfl rfl rfl (c7 rfl rfl zG (by simp) (by first | rfl | assumption)) ?_
   refine xM rfl rfl rfl rfl rfl ?_
   refine xM rfl rfl rfl rfl rfl ?_
   refine ae rfl rfl rfl rfl (kx rfl rfl) ?_
   refine ae rfl rfl rfl rfl (cv rfl rfl) ?_
   try dsimp only [St.put]
   refine ah rfl rfl rfl rfl (c7 rfl rfl zG (by simp) (by first | rfl | assumption)) ?_
   refine xM rfl rfl rfl rfl rfl ?_
   refine xM rfl rfl rfl rfl rfl ?_
   refine ae rfl rfl rfl rfl (kx rfl rfl) ?_
   refine ae rfl rfl rfl rfl (cv rfl rfl) ?_
   try dsimp only [St.put]
   refine ah rfl rfl rfl rfl (c7 rfl rfl zG (by simp) (by first | rfl | assumption)) ?_
   refine xM rfl rfl rfl rfl rfl ?_
   refine cc ⟨zD, ?_⟩
   dsimp only [St.put]
   refine ue7 ws al bo (f8 p.text x : Int) (ei p.text x) (([] : List PlaceD)) nB a1 a2 a3 _ rfl (by kernel_rfl) (by kernel_rfl) (by kernel_rfl) rfl rfl rfl rfl rfl rfl rfl rfl rfl rfl rfl rfl rfl zG zG zG zG d1 d2 d3 d4 d5 d6 hw ha hb ?_
   dsimp only
   refine rp [(24, none), (25, none)] 7 (rl [26, 7]) (by kernel_rfl) ?_
   refine ae rfl rfl rfl rfl (kx rfl rfl) ?_
   refine ae rfl rfl rfl rfl (cv rfl rfl) ?_
   refine cc ⟨zD, ?_⟩
   refine qi [26] (by kernel_rfl) (by simp) ?_
   refine ro ?_ ?_
   ·try dsimp only [St.put]
    refine ri rfl rfl rfl rfl (ja rfl rfl rfl zG (by constructor) rfl zO ?_)
    refine rp [(27, none), (28, none)] 4 (rl [29, 4]) (by kernel_rfl) ?_
    refine ae rfl rfl rfl rfl (kx rfl rfl) ?_
    refine ae rfl rfl rfl rfl (cv rfl rfl) ?_
    refine cc ⟨zD, ?_⟩
    refine qi [29] (by kernel_rfl) (by simp) ?_
    refine ro ?_ ?_
    ·try dsimp only [St.put]
     refine ri rfl rfl rfl rfl (ja rfl rfl rfl zG (by constructor) rfl zO ?_)
     refine rp [(30, none), (31, none)] 1 (rl [32, 1]) (by kernel_rfl) ?_
     refine ae rfl rfl rfl rfl (kx rfl rfl) ?_
     refine ae rfl rfl rfl rfl (cv rfl rfl) ?_
     refine cc ⟨zD, ?_⟩
     refine qi [32] (by kernel_rfl) (by simp) ?_
     refine ro ?_ ?_
     ·try dsimp only [St.put]
      refine ri rfl rfl rfl rfl (ja rfl rfl rfl zG (by constructor) rfl zO ?_)
      dsimp only [St.put]
      refine ue9 (by kernel_rfl) ?_
      rw [hB]
      refine udp rfl (.inl rfl) zN (uah zG zG zG zG fun n o q1 q2 q3 q4 h => ?_)
      have hn := hlt n o h
      (try dsimp only)
      repeat (first | exact h | rw [dc (by omega)] | rw [l5 (by omega)])
     exact rn
    exact rn
   exact rn
  have hz0 := x7 hym
  subst hz0
  obtain ⟨z, hz⟩ : ∃ z, z = y := ⟨_, rfl⟩
  subst hz
  have hIn : ∀ z ∈ ks, ∀ x ∈ done ++ [z], x ∈ ks := fun z hz x hx => by
   rcases List.mem_append.1 hx with hx | hx
   ·exact hI8.1 x hx
   rw [List.mem_singleton] at hx; exact hx ▸ hz
  have hIu : ∀ z, z ∉ done → (done ++ [z]).Nodup := fun z hz => List.nodup_append.2 ⟨hI8.2, by simp, fun a ha b hb => by
   rw [List.mem_singleton] at hb; subst hb; exact fun e => hz (e ▸ ha)⟩
  have hdl := uv hp hI8.2 (fun q hq => onceM_ne.1 ((hks0 q).2 (hI8.1 q hq)))
  refine yX rfl rfl rfl rfl ?_
  refine yN ?_
  dsimp only [St.put]
  refine K34 _ ?_
  refine yS fun _ K37 => ?_
  refine ar rfl (fun _ => ?_) (fun h => by cases h)
  refine ax ?_
  refine K37 _ ?_
  refine az ?_
  refine yS fun _ K38 => ?_
  refine yR ?_
  try dsimp only [St.put]
  refine af rfl (uaz (fx := nx + 1 + 1 + 1) (n := nx) rfl rfl zG trivial zG zG trivial (by assumption)) ?_
  refine yX rfl rfl rfl rfl ?_
  try dsimp only [St.put]
  refine aj rfl (eb rfl ?_)
  try dsimp only [St.put]
  refine aj rfl (dj rfl rfl rfl zG rfl rfl (by rfl) ?_)
  refine yN ?_
  dsimp only [St.put]
  refine K38 _ ?_
  refine gt (i := 18) rfl zG zC ?_
  dsimp only
  refine yR ?_
  refine yM rfl rfl ?_
  try dsimp only [St.put]
  refine af rfl (bv rfl rfl rfl) ?_
  try dsimp only [St.put]
  refine aj rfl (fh rfl rfl rfl (by decide) (by decide) zR (by decide) ?_)
  try dsimp only [St.put]
  refine aj rfl (fu (xs := ([] : List PlaceD) ++ done) [z] rfl rfl zG rfl rfl rfl rfl zA zA (fun v3 => ?_))
  refine yA rfl rfl ?_
  refine yN ?_
  dsimp only [St.put]
  simp only [List.append_assoc]
  exact ⟨(done ++ [z], wi + 1, v3, wv), ucu hyk hyd, ⟨hIn z hyk, hIu z hyd⟩, ⟨⟨rfl, rfl⟩, zF, zB, zN, zX⟩⟩
 refine yR ?_
 refine yA rfl rfl ?_
 refine yN ?_
 dsimp only [St.put]
 refine K22 _ ?_
 refine pp 14 54 3 rfl (by decide) ?_
 dsimp only [List.set_cons_zero, List.set_cons_succ]
 refine yS fun _ K39 => ?_
 refine yS fun _ K40 => ?_
 refine yR ?_
 refine yF rfl rfl rfl rfl ?_
 refine yL rfl rfl rfl ?_
 refine aa rfl (ba rfl rfl (List.length_map _)) ?_
 refine yM rfl rfl ?_
 refine yN ?_
 dsimp only [St.put]
 refine K40 _ ?_
 refine az ?_
 refine ck 72 ?_
 refine zQ ?_
 refine c6 (ai ((ai G nx (ix Tryd.prog 54 (x.found.length) ((gw (gm x.found (x.well.take 0))))))) (nx + 1) (.tip 0 54 3)) zX ?_
 dsimp only
 refine c5 (X := Nat) (fun k => k ≤ x.well.length) (fun k => x.well.length - k) (fun k => [(14, .list ((m4 x.found x.well k).map cells) (.tip (nx + 1))), (16, .any), (71, .v (.int .i64 (k : Int)))]) (fun k G' => ai ((ai G nx (ix Tryd.prog 54 ((x.found.length + k)) ((gw (gm x.found (x.well.take k))))))) (nx + 1) (.tip (m4 x.found x.well k).length 54 3)) 0 rfl ?_ ?_ ?_ ?_ ?_ ?_
 ·exact Nat.zero_le _
 ·exact zF
 ·exact zX
 ·rintro k hI
  exact (by (try dsimp only); repeat' (first | exact trivial | refine ⟨?_, ?_⟩ | exact .v | exact .any | refine .elem ?_ | exact cg _ _ | exact gd _ _ | exact fa _ _ | exact gg _ (by (try dsimp only); omega) | exact .box (by (try dsimp only); omega) | exact fp | exact eg | exact iw (na _ _) | refine gi ?_ ?_ | exact .arr (by (try dsimp only); omega) | exact .own (by (try dsimp only); omega) | exact .map (by (try dsimp only); omega) | exact fg _ | refine dd ?_ ?_ | exact cg _ _))
 ·rintro k hI
  exact (by (repeat' (refine mb ?_ (by (try dsimp only); omega) ?_)); all_goals (first | exact mc zS | (repeat' (first | exact trivial | refine ⟨?_, ?_⟩ | exact .v | exact .any | refine .elem ?_ | exact cg _ _ | exact gd _ _ | exact fa _ _ | exact gg _ (by (try dsimp only); omega) | exact .box (by (try dsimp only); omega) | exact fp | exact eg | exact iw (na _ _) | refine gi ?_ ?_ | exact .arr (by (try dsimp only); omega) | exact .own (by (try dsimp only); omega) | exact .map (by (try dsimp only); omega) | exact fg _ | refine dd ?_ ?_ | exact cg _ _))))
 rintro k hK
 dsimp only at hK ⊢
 refine yS fun _ K41 => ?_
 refine yR ?_
 refine aa rfl (cj rfl rfl rfl) ?_
 refine yN ?_
 dsimp only [St.put]
 refine K41 _ ?_
 refine yS fun _ K42 => ?_
 refine ar rfl (fun hc => ?_) (fun hc => ?_)
 ·replace hc := of_decide_eq_true hc
  obtain ⟨q, hq⟩ : ∃ q, x.well[k]? = some q := da (by omega)
  have hbt := ueh x.found x.well k
  refine ax ?_
  refine K42 _ ?_
  refine yS fun _ K43 => ?_
  refine az ?_
  refine yS fun _ K44 => ?_
  refine yR ?_
  refine aa rfl (bn rfl rfl rfl rfl (bp (by assumption)) (Enc.len _)) ?_
  refine yE rfl rfl rfl ?_
  try dsimp only [St.put]
  refine aj rfl (eb rfl ?_)
  try dsimp only [St.put]
  refine aj rfl (dj rfl rfl rfl zG rfl rfl (by rfl) ?_)
  refine yN ?_
  dsimp only [St.put]
  refine K44 _ ?_
  refine gt (i := 16) rfl zG zC ?_
  dsimp only
  refine yS fun _ K45 => ?_
  refine yR ?_
  refine yM rfl rfl ?_
  refine yE rfl rfl rfl ?_
  try dsimp only [St.put]
  refine af rfl (um q rfl rfl zG trivial rfl (ubz _ _)) ?_
  refine yN ?_
  dsimp only [St.put]
  refine K45 _ ?_
  refine ar rfl (fun hc => ?_) (fun hc => ?_)
  ·have hin : q ∈ x.found := by
    rw [uw hnd2 hq] at hc
    exact of_decide_eq_true hc
   refine yS fun _ K46 => ?_
   refine yR ?_
   refine yM rfl rfl ?_
   refine yE rfl rfl rfl ?_
   try dsimp only [St.put]
   refine aj rfl (fh rfl rfl rfl (by decide) (by decide) zR (by decide) ?_)
   try dsimp only [St.put]
   refine aj rfl (jh ([q]) rfl rfl zG zE rfl rfl zA ?_ zA)
   refine yA rfl rfl ?_
   refine yN ?_
   dsimp only [St.put]
   refine K46 _ ?_
   refine yR ?_
   refine yM rfl rfl ?_
   refine yE rfl rfl rfl ?_
   try dsimp only [St.put]
   refine aj rfl (ud1 q rfl rfl zG rfl (uby hnd2 hq hin) ?_)
   refine yN ?_
   dsimp only [St.put]
   refine K43 _ ?_
   refine yR ?_
   refine aa rfl (bu rfl rfl rfl (by omega)) ?_
   refine yM rfl rfl ?_
   refine yN ?_
   dsimp only [St.put]
   have e := ueg (F := x.found) hq
   first
   | (have hi : q ∈ x.found := hin
      rw [decide_eq_true hi, cond_true] at e
      simp only [← e]
      exact ⟨k + 1, by omega, by omega, ⟨⟨rfl, rfl⟩, zF, zB, zN, zX⟩⟩)
   | (have hi : q ∉ x.found := hout
      rw [decide_eq_false hi, cond_false, List.append_nil] at e
      simp only [← e]
      exact ⟨k + 1, by omega, by omega, ⟨⟨rfl, rfl⟩, zF, zB, zN, zX⟩⟩)
  have hout : q ∉ x.found := by
   rw [uw hnd2 hq] at hc
   exact of_decide_eq_false hc
  refine yR ?_
  refine yM rfl rfl ?_
  refine yE rfl rfl rfl ?_
  try dsimp only [St.put]
  refine aj rfl (tn (q) rfl rfl rfl zG rfl (ubx hnd2 hq hout) ?_)
  refine yN ?_
  dsimp only [St.put]
  refine K43 _ ?_
  refine yR ?_
  refine aa rfl (bu rfl rfl rfl (by omega)) ?_
  refine yM rfl rfl ?_
  refine yN ?_
  dsimp only [St.put]
  have e := ueg (F := x.found) hq
  first
  | (have hi : q ∈ x.found := hin
     rw [decide_eq_true hi, cond_true] at e
     simp only [← e]
     exact ⟨k + 1, by omega, by omega, ⟨⟨rfl, rfl⟩, zF, zB, zN, zX⟩⟩)
  | (have hi : q ∉ x.found := hout
     rw [decide_eq_false hi, cond_false, List.append_nil] at e
     simp only [← e]
     exact ⟨k + 1, by omega, by omega, ⟨⟨rfl, rfl⟩, zF, zB, zN, zX⟩⟩)
 replace hc := of_decide_eq_false hc
 obtain rfl : k = x.well.length := by omega
 rw [ul3 hp]
 refine cw ?_
 refine K39 _ ?_
 refine yS fun _ K47 => ?_
 refine tu 14 (lst (fe p.text x)) rfl Wk.tok ?_
 refine yR ?_
 refine yM rfl rfl ?_
 try dsimp only [St.put]
 refine aj rfl (tp rfl rfl rfl (uln (fe p.text x) hB (by omega) _ _) ?_)
 refine yA rfl rfl ?_
 refine yN ?_
 dsimp only [St.put]
 refine K47 _ ?_
 refine yS fun _ K48 => ?_
 refine yS fun _ K49 => ?_
 refine yR ?_
 refine yM rfl rfl ?_
 try dsimp only [St.put]
 refine aj rfl (udx rfl rfl zG fun r β cl ks hnd hks0 hinj => ?_)
 refine yN ?_
 dsimp only [St.put]
 refine K49 _ ?_
 rw [hmw] at hks0
 rw [hmw]
 refine az ?_
 refine ck 91 ?_
 refine zQ ?_
 refine c6 (ai (ai (ai (ai G nx (oq Tryd.prog 54 (x.found.length + x.well.length) (gw (gm x.found x.well)) β cl)) (nx + 1 + 1) (.arr 0 0 54 3 (fe p.text x).length (ct (fe p.text x)))) (nx + 1 + 1 + 1) (.raw 0 (.mapIter (some r) cl (jl β ([] : List PlaceD)) cl))) (nx + 1 + 1 + 1 + 1) (.fact (.map (some r)) (.map nx))) zX ?_
 dsimp only
 refine c5 (X := List PlaceD × Nat × Nat × Nat) (fun y => (∀ z ∈ y.1, z ∈ ks) ∧ y.1.Nodup) (fun y => sx ks y.1) (fun y => [(17, .own (nx + 1 + 1) y.2.2.1 (fe p.text x ++ y.1).length), (18, .any)]) (fun y G' => (ai (ai (ai (ai G nx (oq Tryd.prog 54 ((x.found.length + x.well.length)) (gw ((gm x.found x.well))) β cl)) ((nx + 1 + 1)) (.arr y.2.2.1 y.2.2.2 54 3 ((fe p.text x ++ y.1)).length (ct ((fe p.text x ++ y.1))))) ((nx + 1 + 1 + 1)) (.raw y.2.1 (.mapIter (some r) cl (jl β y.1) cl))) ((nx + 1 + 1 + 1 + 1)) (.fact (.map (some r)) (.map nx)))) ([], 0, 0, 0) rfl ?_ ?_ ?_ ?_ ?_ ?_
 ·exact ⟨fun z hz => by simp at hz, List.nodup_nil⟩
 ·simp only [List.append_nil]
  exact zF
 ·simp only [List.append_nil]
  exact zX
 ·rintro ⟨done, wi, vl, wv⟩ hI
  exact (by (try dsimp only); repeat' (first | exact trivial | refine ⟨?_, ?_⟩ | exact .v | exact .any | refine .elem ?_ | exact cg _ _ | exact gd _ _ | exact fa _ _ | exact gg _ (by (try dsimp only); omega) | exact .box (by (try dsimp only); omega) | exact fp | exact eg | exact vx (na _ _) | exact fg _ | refine gi ?_ ?_ | exact .arr (by (try dsimp only); omega) | exact .own (by (try dsimp only); omega) | exact .map (by (try dsimp only); omega) | exact fg _ | refine dd ?_ ?_ | exact cg _ _))
 ·rintro ⟨done, wi, vl, wv⟩ hI
  exact (by (repeat' (refine mb ?_ (by (try dsimp only); omega) ?_)); all_goals (first | exact mc zS | (repeat' (first | exact trivial | refine ⟨?_, ?_⟩ | exact .v | exact .any | refine .elem ?_ | exact cg _ _ | exact gd _ _ | exact fa _ _ | exact gg _ (by (try dsimp only); omega) | exact .box (by (try dsimp only); omega) | exact fp | exact eg | exact vx (na _ _) | exact fg _ | refine gi ?_ ?_ | exact .arr (by (try dsimp only); omega) | exact .own (by (try dsimp only); omega) | exact .map (by (try dsimp only); omega) | exact fg _ | refine dd ?_ ?_ | exact cg _ _))))
 rintro ⟨done, wi, vl, wv⟩ hI8
 dsimp only at hI8 ⊢
 refine yS fun _ K50 => ?_
 refine yR ?_
 try dsimp only [St.put]
 refine aj rfl (udy (done := done) rfl rfl zG zG zG (hks0) (hinj) (hI8.1) (fun hend => ?_) (fun y c hym hyk hyd => ?_))
 ·have hdl := uv hp hI8.2 (fun q hq => onceM_ne.1 ((hks0 q).2 (hI8.1 q hq)))
  have hdk : ∀ q, q ∈ done ↔ gm x.found x.well q = true := fun q => ⟨fun hq => onceM_ne.1 ((hks0 q).2 (hI8.1 q hq)), fun hq => hend q ((hks0 q).1 (onceM_ne.2 hq))⟩
  have hpb := ubw hp ht (fun q hq => (hdk q).1 hq)
  refine yX rfl rfl rfl rfl ?_
  refine yN ?_
  dsimp only [St.put]
  refine K50 _ ?_
  refine yS fun _ K51 => ?_
  refine ar rfl (fun h => by cases h) (fun _ => ?_)
  refine cw ?_
  refine K48 _ ?_
  refine yS fun _ K52 => ?_
  have hpb2 : ∀ y ∈ fe p.text x ++ done, PBd9 y := fun y hy => by
   rcases List.mem_append.1 hy with hy | hy
   ·exact ul4 hp ht hy
   exact hpb y hy
  refine yR ?_
  refine yM rfl rfl ?_
  try dsimp only [St.put]
  refine aj rfl (udw uaq PBd9 l8 rfl rfl rfl rfl zG rfl rfl rfl (fun y hy => hy.plain) hpb2 (by first | (rw [List.length_append]; omega) | (simp only [List.nil_append]; omega)) (fun a b _ _ => xx a b _ _) ubu (fun ys hperm hsort => ?_))
  refine yN ?_
  dsimp only [St.put]
  have hlen := hperm.length_eq
  obtain rfl := uez hp hI8.2 hdk hperm hsort
  refine K52 _ ?_
  refine zm 17 (ei p.text x) rfl zG rfl rfl hlen.symm ?_
  dsimp only
  refine uer [(0, none), (1, none), (2, none), (3, none), (4, none), (5, none), (6, none), (7, none), (10, none), (11, none), (12, none), (13, none), (14, none), (17, none), (18, none), (19, none), (20, none), (21, none)] (fun i => [23, 26, 29, 32].contains i) (fun i => [0, 1, 2, 3, 4, 5, 7, 10, 11, 12, 14, 17, 18, 19, 21].contains i) 15 (rl [8, 2, 5, 2, 5, 11]) [nB] (by kernel_rfl) (by kernel_rfl) ?_
  refine xM rfl rfl rfl rfl rfl ?_
  refine xM rfl rfl rfl rfl rfl ?_
  refine xM rfl rfl rfl rfl rfl ?_
  refine xM rfl rfl rfl rfl rfl ?_
  refine ae rfl rfl rfl rfl (kx rfl rfl) ?_
  refine ae rfl rfl rfl rfl (cv rfl rfl) ?_
  try dsimp only [St.put]
  refine ah rfl rfl rfl rfl (c7 rfl rfl zG (by simp) (by first | rfl | assumption)) ?_
  refine xM rfl rfl rfl rfl rfl ?_
  refine xM rfl rfl rfl rfl rfl ?_
  refine ae rfl rfl rfl rfl (kx rfl rfl) ?_
  refine ae rfl rfl rfl rfl (cv rfl rfl) ?_
  try dsimp only [St.put]
  refine ah rfl rfl rfl rfl (c7 rfl rfl zG (by simp) (by first | rfl | assumption)) ?_
  refine xM rfl rfl rfl rfl rfl ?_
  refine xM rfl rfl rfl rfl rfl ?_
  refine ae rfl rfl rfl rfl (kx rfl rfl) ?_
  refine ae rfl rfl rfl rfl (cv rfl rfl) ?_
  try dsimp only [St.put]
  refine ah rfl rfl rfl rfl (c7 rfl rfl zG (by simp) (by first | rfl | assumption)) ?_
  refine xM rfl rfl rfl rfl rfl ?_
  refine cc ⟨zD, ?_⟩
  dsimp only [St.put]
  refine ue7 ws al bo (f8 p.text x : Int) (ei p.text x) (fe p.text x) nB a1 a2 a3 _ rfl (by kernel_rfl) (by kernel_rfl) (by kernel_rfl) rfl rfl rfl rfl rfl rfl rfl rfl rfl rfl rfl rfl rfl zG zG zG zG d1 d2 d3 d4 d5 d6 hw ha hb ?_
  dsimp only
  refine rp [(24, none), (25, none)] 7 (rl [26, 7]) (by kernel_rfl) ?_
  refine ae rfl rfl rfl rfl (kx rfl rfl) ?_
  refine ae rfl rfl rfl rfl (cv rfl rfl) ?_
  refine cc ⟨zD, ?_⟩
  refine qi [26] (by kernel_rfl) (by simp) ?_
  refine ro ?_ ?_
  ·try dsimp only [St.put]
   refine ri rfl rfl rfl rfl (ja rfl rfl rfl zG (by constructor) rfl zO ?_)
   refine rp [(27, none), (28, none)] 4 (rl [29, 4]) (by kernel_rfl) ?_
   refine ae rfl rfl rfl rfl (kx rfl rfl) ?_
   refine ae rfl rfl rfl rfl (cv rfl rfl) ?_
   refine cc ⟨zD, ?_⟩
   refine qi [29] (by kernel_rfl) (by simp) ?_
   refine ro ?_ ?_
   ·try dsimp only [St.put]
    refine ri rfl rfl rfl rfl (ja rfl rfl rfl zG (by constructor) rfl zO ?_)
    refine rp [(30, none), (31, none)] 1 (rl [32, 1]) (by kernel_rfl) ?_
    refine ae rfl rfl rfl rfl (kx rfl rfl) ?_
    refine ae rfl rfl rfl rfl (cv rfl rfl) ?_
    refine cc ⟨zD, ?_⟩
    refine qi [32] (by kernel_rfl) (by simp) ?_
    refine ro ?_ ?_
    ·try dsimp only [St.put]
     refine ri rfl rfl rfl rfl (ja rfl rfl rfl zG (by constructor) rfl zO ?_)
     dsimp only [St.put]
     refine ue9 (by kernel_rfl) ?_
     refine udp rfl (.inl rfl) zN (uah zG zG zG zG fun n o q1 q2 q3 q4 h => ?_)
     have hn := hlt n o h
     (try dsimp only)
     repeat (first | exact h | rw [dc (by omega)] | rw [l5 (by omega)])
    exact rn
   exact rn
  exact rn
 have hz0 := x7 hym
 subst hz0
 obtain ⟨z, hz⟩ : ∃ z, z = y := ⟨_, rfl⟩
 subst hz
 have hIn : ∀ z ∈ ks, ∀ x ∈ done ++ [z], x ∈ ks := fun z hz x hx => by
  rcases List.mem_append.1 hx with hx | hx
  ·exact hI8.1 x hx
  rw [List.mem_singleton] at hx; exact hx ▸ hz
 have hIu : ∀ z, z ∉ done → (done ++ [z]).Nodup := fun z hz => List.nodup_append.2 ⟨hI8.2, by simp, fun a ha b hb => by
  rw [List.mem_singleton] at hb; subst hb; exact fun e => hz (e ▸ ha)⟩
 have hdl := uv hp hI8.2 (fun q hq => onceM_ne.1 ((hks0 q).2 (hI8.1 q hq)))
 refine yX rfl rfl rfl rfl ?_
 refine yN ?_
 dsimp only [St.put]
 refine K50 _ ?_
 refine yS fun _ K53 => ?_
 refine ar rfl (fun _ => ?_) (fun h => by cases h)
 refine ax ?_
 refine K53 _ ?_
 refine az ?_
 refine yS fun _ K54 => ?_
 refine yR ?_
 try dsimp only [St.put]
 refine af rfl (uaz (fx := nx + 1 + 1 + 1 + 1) (n := nx) rfl rfl zG trivial zG zG trivial (by assumption)) ?_
 refine yX rfl rfl rfl rfl ?_
 try dsimp only [St.put]
 refine aj rfl (eb rfl ?_)
 try dsimp only [St.put]
 refine aj rfl (dj rfl rfl rfl zG rfl rfl (by rfl) ?_)
 refine yN ?_
 dsimp only [St.put]
 refine K54 _ ?_
 refine gt (i := 18) rfl zG zC ?_
 dsimp only
 refine yR ?_
 refine yM rfl rfl ?_
 try dsimp only [St.put]
 refine af rfl (bv rfl rfl rfl) ?_
 try dsimp only [St.put]
 refine aj rfl (fh rfl rfl rfl (by decide) (by decide) zR (by decide) ?_)
 try dsimp only [St.put]
 refine aj rfl (fu (xs := fe p.text x ++ done) [z] rfl rfl zG rfl rfl rfl rfl zA zA (fun v3 => ?_))
 refine yA rfl rfl ?_
 refine yN ?_
 dsimp only [St.put]
 simp only [List.append_assoc]
 exact ⟨(done ++ [z], wi + 1, v3, wv), ucu hyk hyd, ⟨hIn z hyk, hIu z hyd⟩, ⟨⟨rfl, rfl⟩, zF, zB, zN, zX⟩⟩
end Go.Proofs.YtgffhbbcpgdjjaaDoor
namespace Go.AB
open Go Go.RowKit
open Go.AB.Enc (cells)
open Go.PB (ay ak PlaceD bi bk bj bz av aq cy cx dp dm)
end Go.AB
namespace Go.Proofs.YtgffhbbcpgdjjaaDoor
set_option maxRecDepth 10000
open Go Go.RowKit Go.AB
open Go.AB.Enc (cells)
open Go.PB (ay ak PlaceD bi bk bj bz av aq cy cx dp dm)
theorem ulp (l : List Int) (he : l = []) : Pure Tryd.prog 80 [lst l] (lst l) := by
 subst he
 refine cz Tryd.func80 rfl (fun m => (cg _ _)) fun G nx => ?_
 simp only [Tryd.ntmps80, List.length_cons, List.length_nil, Nat.reduceAdd, Nat.reduceSub]
 refine ci fun hlt => ?_
 dsimp only at hlt
 refine yS fun _ K1 => ?_
 refine yR ?_
 refine yA rfl rfl ?_
 refine yN ?_
 dsimp only [St.put]
 refine K1 _ ?_
 refine yS fun _ K2 => ?_
 refine yS fun _ K3 => ?_
 refine yR ?_
 refine yM rfl rfl ?_
 refine aj rfl (ud0 rfl rfl fun b _ => ?_)
 refine yN ?_
 dsimp only [St.put]
 refine K3 _ ?_
 refine ar rfl (fun hc => ?_) (fun hc => ?_)
 ·try replace hc := of_decide_eq_true hc
  refine yS fun _ K4 => ?_
  refine yR ?_
  refine yA rfl rfl ?_
  refine yN ?_
  dsimp only [St.put]
  refine K4 _ ?_
  refine aw ?_
  refine lg rfl (fk (by constructor)) zN zS ?_
  exact zW
 try replace hc := of_decide_eq_false hc
 refine ax ?_
 refine K2 _ ?_
 refine yS fun _ K5 => ?_
 refine yR ?_
 try dsimp only [St.put]
 refine aj rfl (tq rfl ?_)
 refine yM rfl rfl ?_
 try dsimp only [St.put]
 refine aj rfl (wc rfl rfl (.inl rfl) rfl (show 1 ≤ 1 by decide) (fun r hr => by cases hr) (by simp) (by simp) ?_)
 refine yA rfl rfl ?_
 refine yN ?_
 dsimp only [St.put]
 refine K5 _ ?_
 refine aw ?_
 refine lg rfl (fk (by constructor)) zN zS ?_
 exact zW
theorem zc (l : List Int) (hne : l ≠ []) (hl : l.length ≤ 1000) (G : Nat → Option GObj) (nx : Nat) : PC Tryd.prog 80 [lst l] G nx fun r G' nx' => r = .own nx 0 l.length ∧ G' = ai G nx (.arr 0 0 3 1 l.length (ct l)) ∧ nx' = nx + 1 := by
 refine oe (ai G nx (.arr 0 0 3 1 l.length (ct l))) (nx + 1) Tryd.func80 rfl (.own (Nat.lt_succ_self _)) zN (fun hlt => (by (repeat' (refine mb ?_ (by (try dsimp only); omega) ?_)); all_goals (first | exact mc zS | (repeat' (first | exact trivial | refine ⟨?_, ?_⟩ | exact .v | exact .any | refine .elem ?_ | exact cg _ _ | exact gd _ _ | exact fa _ _ | exact gg _ (by (try dsimp only); omega) | exact .box (by (try dsimp only); omega) | exact fp | exact eg | exact fg _ | refine gi ?_ ?_ | exact .arr (by (try dsimp only); omega) | exact .own (by (try dsimp only); omega) | exact .map (by (try dsimp only); omega) | exact fg _ | refine dd ?_ ?_ | exact cg _ _))))) ?_
 simp only [Tryd.ntmps80, List.length_cons, List.length_nil, Nat.reduceAdd, Nat.reduceSub]
 refine ci fun hlt => ?_
 dsimp only at hlt
 refine yS fun _ K1 => ?_
 refine yR ?_
 refine yA rfl rfl ?_
 refine yN ?_
 dsimp only [St.put]
 refine K1 _ ?_
 refine yS fun _ K2 => ?_
 refine yS fun _ K3 => ?_
 refine yR ?_
 refine yM rfl rfl ?_
 refine aj rfl (udz (fun e => hne (by simpa using e)) rfl rfl ?_)
 refine yN ?_
 dsimp only [St.put]
 refine K3 _ ?_
 refine ar rfl (fun hc => ?_) (fun hc => ?_)
 ·try replace hc := of_decide_eq_true hc
  refine yS fun _ K4 => ?_
  refine yR ?_
  refine yA rfl rfl ?_
  refine yN ?_
  dsimp only [St.put]
  refine K4 _ ?_
  refine aw ?_
  exact absurd hc (by decide)
 try replace hc := of_decide_eq_false hc
 refine ax ?_
 refine K2 _ ?_
 refine yS fun _ K5 => ?_
 refine yR ?_
 try dsimp only [St.put]
 refine aj rfl (tq rfl ?_)
 refine yM rfl rfl ?_
 try dsimp only [St.put]
 refine aj rfl (ud3 l rfl rfl (.inl rfl) rfl rfl hne (by decide) (by omega) (by omega) ?_)
 refine yA rfl rfl ?_
 refine yN ?_
 dsimp only [St.put]
 refine K5 _ ?_
 refine aw ?_
 refine bg rfl (by constructor) zN zS ?_
 rfl
set_option maxHeartbeats 1000000 in
theorem uig (p : aq) (R C : Nat → Int) (j : Nat) (x : av) (n : Int) (h : f5 p) (h0 : 0 < bl p) (hx : p.pages[j]? = some x) (hn : -1000000 ≤ n ∧ n ≤ 1000000) (hR : ∀ i, -1000000 ≤ R i ∧ R i ≤ 1000000) : Pure Tryd.prog 51 [val (ie p R C), .v (.int .i64 (j : Int)), .v (.int .i64 n)] (val (ie p ((eu p).lessR R j n) (me C j))) := by
 refine cz Tryd.func51 rfl (fun m => (fa _ _)) fun G nx => ?_
 simp only [Tryd.ntmps51, List.length_cons, List.length_nil, Nat.reduceAdd, Nat.reduceSub]
 refine ci fun hlt => ?_
 dsimp only at hlt
 have hjl := (List.getElem?_eq_some_iff.1 hx).1
 have hrx := xq hx
 have hn1 := h.nf
 have hn2 := h.ns
 have hnp := h.np
 have hnr : bl p = p.firsts.length + p.seconds.length := rfl
 have hrl := uq p x
 have hl1 := im (bl p) R
 have hl2 := im p.pages.length C
 have hne2 : bh p.pages.length C ≠ [] := fun e => by rw [e] at hl2; simp at hl2; omega
 have hne1 : bh (bl p) R ≠ [] := fun e => by rw [e] at hl1; simp at hl1; omega
 refine yS fun _ K1 => ?_
 refine yR ?_
 try dsimp only [St.put]
 refine aj rfl (y9 rfl rfl ?_)
 try dsimp only [St.put]
 refine aj rfl (eb rfl ?_)
 refine yN ?_
 dsimp only [St.put]
 refine K1 _ ?_
 refine yS fun _ K2 => ?_
 refine fm [(0, none), (1, none), (3, none), (4, none), (2, none), (6, none), (5, none), (7, none), (8, none), (9, none)] (fun i => [5, 7, 9].contains i) (fun i => [2, 5, 7, 9].contains i) (fun i => [0, 3, 6, 8].contains i) [nx] (by kernel_rfl) (by kernel_rfl) ?_
 refine ae rfl rfl rfl rfl (cv rfl rfl) ?_
 try dsimp only [St.put]
 refine ah rfl rfl rfl rfl (c7 rfl rfl zG (by simp) (by first | rfl | assumption)) ?_
 refine ae rfl rfl rfl rfl (cv rfl rfl) ?_
 try dsimp only [St.put]
 refine ah rfl rfl rfl rfl (c7 rfl rfl zG (by simp) (by first | rfl | assumption)) ?_
 refine il ?_
 try dsimp only [St.put]
 refine ib rfl rfl rfl (tp rfl rfl rfl (zc (bh (bl p) R) hne1 (by omega) _ _) ⟨zD, ?_⟩)
 refine ep rfl rfl rfl rfl (cv rfl rfl) ?_
 try dsimp only [St.put]
 refine fy rfl rfl rfl rfl (tp rfl rfl rfl (zc (bh p.pages.length C) hne2 (by omega) _ _) ?_)
 try dsimp only [St.put]
 refine fy rfl rfl rfl rfl (ja rfl rfl rfl zG (by constructor) rfl zO ?_)
 refine ep rfl rfl rfl rfl (cv rfl rfl) ?_
 try dsimp only [St.put]
 refine fy rfl rfl rfl rfl (ja rfl rfl rfl zG (by constructor) rfl (by show 1 < 3; decide) ?_)
 refine ij ?_
 dsimp only [St.put]
 simp only [hl1, hl2]
 refine K2 _ ?_
 refine yS fun _ K3 => ?_
 refine yS fun _ K4 => ?_
 refine yR ?_
 refine aa rfl (cv rfl rfl) ?_
 try dsimp only [St.put]
 refine af rfl (c7 rfl rfl zG trivial (by first | rfl | assumption)) ?_
 refine yM rfl rfl ?_
 refine aa rfl (bn rfl rfl rfl rfl (bp (by assumption)) (Enc.len _)) ?_
 refine yL rfl rfl rfl ?_
 refine aa rfl (ba rfl rfl (List.length_map _)) ?_
 refine yM rfl rfl ?_
 refine yN ?_
 dsimp only [St.put]
 refine K4 _ ?_
 refine az ?_
 refine ck 24 ?_
 refine zQ ?_
 refine c6 ((ai (ai (ai (ai G nx (.box 2 [.own (nx + 1 + 1) 0 (bl p), .own (nx + 1 + 1 + 1) 0 p.pages.length, lst (p.pages.map (di p))])) (nx + 1) (.box 0 [.list [] .nil, .list [] .nil, .list [] .nil])) (nx + 1 + 1) (.arr 0 0 3 1 (bl p) (ct (bh (bl p) (R))))) (nx + 1 + 1 + 1) (.arr 0 0 3 1 p.pages.length (ct (bh p.pages.length C))))) zX ?_
 dsimp only
 refine c5 (X := Nat) (fun k => k ≤ (di p x).length ∧ ∀ i, -1000000 - k * 1000000 ≤ jk R n ((di p x).take k) i ∧ jk R n ((di p x).take k) i ≤ 1000000 + k * 1000000) (fun k => (di p x).length - k) (fun k => [(8, .any), (23, .v (.int .i64 (k : Int)))]) (fun k G' => (ai (ai (ai (ai G nx (.box 2 [.own (nx + 1 + 1) 0 (bl p), .own (nx + 1 + 1 + 1) 0 p.pages.length, lst (p.pages.map (di p))])) (nx + 1) (.box 0 [.list [] .nil, .list [] .nil, .list [] .nil])) (nx + 1 + 1) (.arr 0 k 3 1 (bl p) (ct (bh (bl p) ((jk R n ((di p x).take k))))))) (nx + 1 + 1 + 1) (.arr 0 0 3 1 p.pages.length (ct (bh p.pages.length C))))) 0 rfl ?_ ?_ ?_ ?_ ?_ ?_
 ·exact ⟨Nat.zero_le _, fun i => by have := hR i; simp only [List.take_zero, uaj]; omega⟩
 ·exact zF
 ·exact zX
 ·rintro k hI
  exact zL
 ·rintro k hI
  exact zH
 rintro k hI
 dsimp only at hI ⊢
 refine yS fun _ K5 => ?_
 refine yR ?_
 refine aa rfl (cj rfl rfl rfl) ?_
 refine yN ?_
 dsimp only [St.put]
 refine K5 _ ?_
 refine yS fun _ K6 => ?_
 refine ar rfl (fun hc => ?_) (fun hc => ?_)
 ·replace hc := of_decide_eq_true hc
  obtain ⟨zn, hz, hz6⟩ := xr h hx (k := k) (by omega)
  have hst := uai (R := R) (n := n) hz
  rw [Int.toNat_natCast] at hst
  have hI2 : ∀ i, -1000000 - ((k + 1 : Nat) : Int) * 1000000 ≤ jk R n ((di p x).take (k + 1)) i ∧ jk R n ((di p x).take (k + 1)) i ≤ 1000000 + ((k + 1 : Nat) : Int) * 1000000 := fun i => by
   rw [hst]
   have h1 := hI.2 i
   have h2 := hI.2 zn
   dsimp only
   cases decide (i = zn)
   ·rw [cond_false]
    omega
   rw [cond_true]
   omega
  have hI3 := hI.2 zn
  obtain ⟨S, hS⟩ : ∃ S, jk R n ((di p x).take k) = S := ⟨_, rfl⟩
  rw [hS] at hst hI3 ⊢
  have hset := r8 S (S zn - n) hz6
  rw [← hst] at hset
  refine ax ?_
  refine K6 _ ?_
  refine yS fun _ K7 => ?_
  refine az ?_
  refine yS fun _ K8 => ?_
  refine yR ?_
  refine aa rfl (bn rfl rfl rfl rfl (bp (by assumption)) (Enc.len _)) ?_
  refine yL rfl rfl rfl ?_
  refine yA rfl rfl ?_
  refine yN ?_
  dsimp only [St.put]
  refine K8 _ ?_
  refine yR ?_
  refine aa rfl (cv rfl rfl) ?_
  try dsimp only [St.put]
  refine af rfl (c7 rfl rfl zG trivial (by first | rfl | assumption)) ?_
  refine yM rfl rfl ?_
  try dsimp only [St.put]
  refine aa rfl (mq rfl rfl zG rfl rfl hz6) ?_
  try dsimp only [St.put]
  refine af rfl (co rfl rfl zG (by simp) (udh (by rw [Nat.mul_one]; exact ll S hz6))) ?_
  refine yM rfl rfl ?_
  refine aa rfl (io rfl rfl rfl (by omega)) ?_
  try dsimp only [St.put]
  refine aa rfl (mq rfl rfl zG rfl rfl hz6) ?_
  try dsimp only [St.put]
  refine aj rfl (tm (k := zn) (j := 0) (z := S zn) (z' := S zn - n) rfl rfl rfl zG rfl rfl (ll S hz6) rfl (by decide) rfl ?_)
  refine yN ?_
  dsimp only [St.put]
  refine K7 _ ?_
  refine yR ?_
  refine aa rfl (bu rfl rfl rfl (by omega)) ?_
  refine yM rfl rfl ?_
  refine yN ?_
  dsimp only [St.put]
  rw [hset]
  exact ⟨k + 1, by omega, ⟨by omega, hI2⟩, ⟨⟨rfl, rfl⟩, zF, zB, zN, zX⟩⟩
 replace hc := of_decide_eq_false hc
 rw [ff (show (di p x).length ≤ k by omega), ← ucs h hx]
 refine cw ?_
 refine K3 _ ?_
 refine yS fun _ K9 => ?_
 refine yR ?_
 refine aa rfl (cv rfl rfl) ?_
 try dsimp only [St.put]
 refine af rfl (c7 rfl rfl zG trivial (by first | rfl | assumption)) ?_
 refine yM rfl rfl ?_
 try dsimp only [St.put]
 refine aa rfl (mq rfl rfl zG rfl rfl hjl) ?_
 try dsimp only [St.put]
 refine aj rfl (tm (k := j) (j := 0) (z := C j) (z' := 0) rfl rfl rfl zG rfl rfl (ll C hjl) rfl (by decide) rfl ?_)
 refine yN ?_
 dsimp only [St.put]
 rw [show (bh p.pages.length C).set j 0 = bh p.pages.length (me C j) from r8 C 0 hjl]
 refine K9 _ ?_
 refine yS fun _ K10 => ?_
 refine po nx 0 (bh (bl p) ((eu p).lessR R j n)) zG rfl zG (by omega) rfl rfl (im _ _).symm ?_
 refine po nx 1 (bh p.pages.length (me C j)) zG rfl zG (by omega) rfl rfl (im _ _).symm ?_
 dsimp only [List.set_cons_zero, List.set_cons_succ]
 refine yR ?_
 try dsimp only [St.put]
 refine af rfl (d7 rfl rfl zG trivial (by rfl)) ?_
 try dsimp only [St.put]
 refine aj rfl (dj rfl rfl rfl zG rfl rfl (by rfl) ?_)
 refine yN ?_
 dsimp only [St.put]
 refine K10 _ ?_
 refine aw ?_
 refine lg rfl (mo rfl zG (by rfl) zC rfl) zN zS ?_
 exact zW
set_option maxHeartbeats 1000000 in
theorem uii (p : aq) (R C : Nat → Int) (j : Nat) (x : av) (n : Int) (h : f5 p) (h0 : bl p = 0) (hx : p.pages[j]? = some x) (hn : -1000000 ≤ n ∧ n ≤ 1000000) (hR : ∀ i, -1000000 ≤ R i ∧ R i ≤ 1000000) : Pure Tryd.prog 51 [val (ie p R C), .v (.int .i64 (j : Int)), .v (.int .i64 n)] (val (ie p ((eu p).lessR R j n) (me C j))) := by
 refine cz Tryd.func51 rfl (fun m => (fa _ _)) fun G nx => ?_
 simp only [Tryd.ntmps51, List.length_cons, List.length_nil, Nat.reduceAdd, Nat.reduceSub]
 refine ci fun hlt => ?_
 dsimp only at hlt
 have hjl := (List.getElem?_eq_some_iff.1 hx).1
 have hrx := xq hx
 have hn1 := h.nf
 have hn2 := h.ns
 have hnp := h.np
 have hnr : bl p = p.firsts.length + p.seconds.length := rfl
 have hrl := uq p x
 have hl1 := im (bl p) R
 have hl2 := im p.pages.length C
 have hne2 : bh p.pages.length C ≠ [] := fun e => by rw [e] at hl2; simp at hl2; omega
 have he1 : bh (bl p) R = [] := by rw [h0]; rfl
 refine yS fun _ K1 => ?_
 refine yR ?_
 try dsimp only [St.put]
 refine aj rfl (y9 rfl rfl ?_)
 try dsimp only [St.put]
 refine aj rfl (eb rfl ?_)
 refine yN ?_
 dsimp only [St.put]
 refine K1 _ ?_
 refine yS fun _ K2 => ?_
 refine fm [(0, none), (1, none), (3, none), (4, none), (2, none), (6, none), (5, none), (7, none), (8, none), (9, none)] (fun i => [5, 7, 9].contains i) (fun i => [2, 5, 7, 9].contains i) (fun i => [0, 3, 6, 8].contains i) [nx] (by kernel_rfl) (by kernel_rfl) ?_
 refine ae rfl rfl rfl rfl (cv rfl rfl) ?_
 try dsimp only [St.put]
 refine ah rfl rfl rfl rfl (c7 rfl rfl zG (by simp) (by first | rfl | assumption)) ?_
 refine ae rfl rfl rfl rfl (cv rfl rfl) ?_
 try dsimp only [St.put]
 refine ah rfl rfl rfl rfl (c7 rfl rfl zG (by simp) (by first | rfl | assumption)) ?_
 refine il ?_
 try dsimp only [St.put]
 refine ib rfl rfl rfl (bq rfl rfl rfl (ulp (bh (bl p) R) he1) ⟨zD, ?_⟩)
 refine ep rfl rfl rfl rfl (cv rfl rfl) ?_
 try dsimp only [St.put]
 refine fy rfl rfl rfl rfl (tp rfl rfl rfl (zc (bh p.pages.length C) hne2 (by omega) _ _) ?_)
 try dsimp only [St.put]
 refine fy rfl rfl rfl rfl (ja rfl rfl rfl zG (by constructor) rfl zO ?_)
 refine ep rfl rfl rfl rfl (cv rfl rfl) ?_
 try dsimp only [St.put]
 refine fy rfl rfl rfl rfl (ja rfl rfl rfl zG (by constructor) rfl (by show 1 < 3; decide) ?_)
 refine ij ?_
 dsimp only [St.put]
 simp only [hl1, hl2]
 refine K2 _ ?_
 refine yS fun _ K3 => ?_
 refine yS fun _ K4 => ?_
 refine yR ?_
 refine aa rfl (cv rfl rfl) ?_
 try dsimp only [St.put]
 refine af rfl (c7 rfl rfl zG trivial (by first | rfl | assumption)) ?_
 refine yM rfl rfl ?_
 refine aa rfl (bn rfl rfl rfl rfl (bp (by assumption)) (Enc.len _)) ?_
 refine yL rfl rfl rfl ?_
 refine aa rfl (ba rfl rfl (List.length_map _)) ?_
 refine yM rfl rfl ?_
 refine yN ?_
 dsimp only [St.put]
 refine K4 _ ?_
 refine az ?_
 refine ck 24 ?_
 refine zQ ?_
 refine c5 (X := Nat) (fun k => k ≤ (di p x).length) (fun k => (di p x).length - k) (fun k => [(8, .any), (23, .v (.int .i64 (k : Int)))]) (fun k G' => G') 0 rfl ?_ ?_ (fun _ _ h => h) ?_ ?_ ?_
 ·exact Nat.zero_le _
 ·exact zF
 ·rintro k hI
  exact zL
 ·exact fun _ _ _ _ h => .inl h
 rintro k hI
 dsimp only at hI ⊢
 refine yS fun _ K5 => ?_
 refine yR ?_
 refine aa rfl (cj rfl rfl rfl) ?_
 refine yN ?_
 dsimp only [St.put]
 refine K5 _ ?_
 refine yS fun _ K6 => ?_
 refine ar rfl (fun hc => ?_) (fun hc => ?_)
 ·replace hc := of_decide_eq_true hc
  obtain ⟨zn, hz, hz6⟩ := xr h hx (k := k) (by omega)
  omega
 replace hc := of_decide_eq_false hc
 refine cw ?_
 refine K3 _ ?_
 refine yS fun _ K7 => ?_
 refine yR ?_
 refine aa rfl (cv rfl rfl) ?_
 try dsimp only [St.put]
 refine af rfl (c7 rfl rfl zG trivial (by first | rfl | assumption)) ?_
 refine yM rfl rfl ?_
 try dsimp only [St.put]
 refine aa rfl (mq rfl rfl zG rfl rfl hjl) ?_
 try dsimp only [St.put]
 refine aj rfl (tm (k := j) (j := 0) (z := C j) (z' := 0) rfl rfl rfl zG rfl rfl (ll C hjl) rfl (by decide) rfl ?_)
 refine yN ?_
 dsimp only [St.put]
 rw [show (bh p.pages.length C).set j 0 = bh p.pages.length (me C j) from r8 C 0 hjl]
 refine K7 _ ?_
 refine yS fun _ K8 => ?_
 refine po nx 1 (bh p.pages.length (me C j)) zG rfl zG (by omega) rfl rfl (im _ _).symm ?_
 dsimp only [List.set_cons_zero, List.set_cons_succ]
 rw [show bh (bl p) R = bh (bl p) ((eu p).lessR R j n) by rw [h0]; rfl]
 refine yR ?_
 try dsimp only [St.put]
 refine af rfl (d7 rfl rfl zG trivial (by rfl)) ?_
 try dsimp only [St.put]
 refine aj rfl (dj rfl rfl rfl zG rfl rfl (by rfl) ?_)
 refine yN ?_
 dsimp only [St.put]
 refine K8 _ ?_
 refine aw ?_
 refine lg rfl (mo rfl zG (by rfl) zC rfl) zN zS ?_
 exact zW
theorem uih (p : aq) (R C : Nat → Int) (j : Nat) (x : av) (n : Int) (h : f5 p) (hx : p.pages[j]? = some x) (hn : -1000000 ≤ n ∧ n ≤ 1000000) (hR : ∀ i, -1000000 ≤ R i ∧ R i ≤ 1000000) : Pure Tryd.prog 51 [val (ie p R C), .v (.int .i64 (j : Int)), .v (.int .i64 n)] (val (ie p ((eu p).lessR R j n) (me C j))) := by
 by_cases h0 : bl p = 0
 ·exact uii p R C j x n h h0 hx hn hR
 exact uig p R C j x n h (by omega) hx hn hR
end Go.Proofs.YtgffhbbcpgdjjaaDoor
namespace Go.AB
open Go Go.RowKit
open Go.AB.Enc (cells)
def n3 (n : Nat) (F : GObj) (P : Program) (f : FuncId) (args : List C) (r : C) : Prop := ∀ G nx, G n = some F → n < nx → PC P f args G nx fun r' G' nx' => r' = r ∧ G' = G ∧ nx' = nx
theorem rf {n : Nat} {F : GObj} {P : Program} {o : Oper} {st : St} {f : FuncId} [Fun P f] {fv : Operand} {args : List Operand} {ats : Array TypeId} {caps al : List C} {K : St → Prop} {r : C} (ho : o.op = .call { callee := .value fv, args := args.toArray, argTypes := ats }) (hf : evC st fv = .fn (.func f) caps) (has : args.map (evC st) ++ caps = al)
  (hp : n3 n F P f al r) (hG : st.G n = some F) (hn : n < st.nx) (h : K (st.put o.dst r)) : EStep P o st K := ulc ho hf has (hp _ _ hG hn) h
end Go.AB

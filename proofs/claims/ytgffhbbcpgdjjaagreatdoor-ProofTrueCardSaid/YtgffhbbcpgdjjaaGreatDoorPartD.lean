/-
  What the walks through the program rest on: values, states, steps, calls (QlPlain, AbZero, AbGrow, AbCutN, QmRef, RhProves, AbInv, AbMixD, AbInvD, RcAny, AbNew, AbEntry, HdKeys, RcAdd, RiWithout, AbFact, RdOpen, AbFW, RfLefts, QnRef).
-/
import Derived.Test.YtgffhbbcpgdjjaaGreatDoorPartC
import Derived.Test.YtgffhbbcpgdjjaaGreatDoorPartB
import Derived.WideKeyEntry
import Derived.Test.YtgffhbbcpgdjjaaGreatDoorPartA
namespace Go.AB
open Go Go.RowKit
open Go.AB.Enc (cells)
open Go.PB (ay aj PlaceD bg bi bh bn ak ah cr bq dr dt)
def ux (R : Nat → Int) (c : Int) (l : List Int) : Int := l.foldl (fun n z => min n (R z.toNat)) c
def mz (R : Nat → Int) (n : Int) (l : List Int) : Nat → Int := l.foldl (fun R z => fun i => bif decide (i = z.toNat) then R z.toNat - n else R i) R
theorem umv (R : Nat → Int) (n : Int) : mz R n [] = R := rfl
theorem uqv {R : Nat → Int} {c : Int} {l : List Int} {k : Nat} {z : Int} (h : l[k]? = some z) : ux R c (l.take (k + 1)) = min (ux R c (l.take k)) (R z.toNat) := by
 unfold ux; rw [List.take_add_one, h, Option.toList_some, List.foldl_append]; rfl
theorem umu {R : Nat → Int} {n : Int} {l : List Int} {k : Nat} {z : Int} (h : l[k]? = some z) : mz R n (l.take (k + 1)) = fun i => bif decide (i = z.toNat) then mz R n (l.take k) z.toNat - n else mz R n (l.take k) i := by
 unfold mz; rw [List.take_add_one, h, Option.toList_some, List.foldl_append]; rfl
theorem uue {p : ah} {j : Nat} {x : ak} (hx : p.pages[j]? = some x) (R C : Nat → Int) : (bx p).alone R C j = ux R (C j) (eg p x) := by
 simp only [Net.alone, bx, hx, eg, ux]
 by_cases q1 : 0 ≤ x.fst <;> by_cases q2 : 0 ≤ x.snd
 ·simp [q1, q2, rb, show ((p.firsts.length : Int) + x.snd).toNat = p.firsts.length + x.snd.toNat by omega]
 ·simp [q1, q2, rb]
 ·simp [q1, q2, rb, show ((p.firsts.length : Int) + x.snd).toNat = p.firsts.length + x.snd.toNat by omega]
 ·simp [q1, q2, rb]
theorem ura {p : ah} (h : et p) {j : Nat} {x : ak} (hx : p.pages[j]? = some x) (R : Nat → Int) (n : Int) : (bx p).lessR R j n = mz R n (eg p x) := by
 have hp := pageB_true.1 (h.page j x hx)
 have h1 := hp.fst
 have h2 := hp.snd
 funext i
 simp only [Net.lessR, Net.by, bx, hx, eg, mz]
 by_cases q1 : 0 ≤ x.fst <;> by_cases q2 : 0 ≤ x.snd
 ·have e2 : ((p.firsts.length : Int) + x.snd).toNat = p.firsts.length + x.snd.toNat := by omega
  have hne : ¬ p.firsts.length + x.snd.toNat = x.fst.toNat := by omega
  rw [decide_eq_true q1, decide_eq_true q2]
  simp only [cond_true, List.cons_append, List.nil_append, List.foldl_cons, List.foldl_nil, e2, Option.some.injEq]
  by_cases z1 : i = x.fst.toNat
  ·have z2 : ¬ i = p.firsts.length + x.snd.toNat := by omega
   simp [z1.symm, z2, Ne.symm z2]
  ·by_cases z2 : i = p.firsts.length + x.snd.toNat
   ·simp [z1, Ne.symm z1, z2, hne, Ne.symm hne]
   ·simp [z1, Ne.symm z1, z2, Ne.symm z2]
 ·rw [decide_eq_true q1, decide_eq_false q2]
  simp only [cond_true, cond_false, List.append_nil, List.foldl_cons, List.foldl_nil, Option.some.injEq]
  by_cases z1 : i = x.fst.toNat
  ·simp [z1]
  ·simp [z1, Ne.symm z1]
 ·have e2 : ((p.firsts.length : Int) + x.snd).toNat = p.firsts.length + x.snd.toNat := by omega
  rw [decide_eq_false q1, decide_eq_true q2]
  simp only [cond_true, cond_false, List.nil_append, List.foldl_cons, List.foldl_nil, e2, Option.some.injEq]
  by_cases z2 : i = p.firsts.length + x.snd.toNat
  ·simp [z2]
  ·simp [z2, Ne.symm z2]
 ·rw [decide_eq_false q1, decide_eq_false q2]
  simp
theorem udl {p : ah} {R C : Nat → Int} (hB : Bd p R C) {j : Nat} {n : Int} (h0 : 0 ≤ n) (hn : n ≤ (bx p).alone R C j) : Bd p ((bx p).lessR R j n) (fk C j) := by
 refine ⟨fun i => ?_, fun k => ?_, hB.nr, hB.np⟩
 ·unfold Net.lessR
  cases hb : (bx p).by j i
  ·exact hB.r i
  ·have h1 := (Net.le_alone.1 hn).2 i hb
   have h2 := hB.r i
   show -1000000 ≤ R i - n ∧ R i - n ≤ 1000000
   omega
 ·unfold fk
  cases decide (k = j)
  ·exact hB.c k
  ·exact ⟨Int.le_refl _, by show (0 : Int) ≤ 1000000; omega⟩
/-- what is above has been looked at -/
def FromTop (p : ah) (R C : Nat → Int) (j : Nat) (n : Int) : Prop := (bx p).pick R C j ≤ n ∧ n ≤ (bx p).alone R C j ∧ ∀ m, n < m → m ≤ (bx p).alone R C j → ¬ (bx p).most R C ≤ m + (bx p).most ((bx p).lessR R j m) (fk C j)
theorem FromTop.start {p : ah} {R C : Nat → Int} {j : Nat} (h : (bx p).Pick R C j ((bx p).pick R C j)) : FromTop p R C j ((bx p).alone R C j) := ⟨h.le, Int.le_refl _, fun m h1 h2 => by omega⟩
theorem FromTop.stop {p : ah} {R C : Nat → Int} {j : Nat} {n : Int} (h : (bx p).Pick R C j ((bx p).pick R C j)) (k : FromTop p R C j n) (hs : (bx p).most R C ≤ n + (bx p).most ((bx p).lessR R j n) (fk C j)) : n = (bx p).pick R C j :=
 Net.Pick.uniq ⟨Int.le_trans h.nn k.1, k.2.1, hs, k.2.2⟩ h
theorem FromTop.down {p : ah} {R C : Nat → Int} {j : Nat} {n : Int} (h : (bx p).Pick R C j ((bx p).pick R C j)) (k : FromTop p R C j n) (hs : ¬ (bx p).most R C ≤ n + (bx p).most ((bx p).lessR R j n) (fk C j)) : FromTop p R C j (n - 1) := by
 refine ⟨?_, by have := k.2.1; omega, fun m h1 h2 => ?_⟩
 ·have h1 := k.1
  by_cases e : n = (bx p).pick R C j
  ·subst e
   exact absurd h.ok hs
  ·omega
 ·by_cases e : m = n
  ·subst e; exact hs
  ·exact k.2.2 m (by omega) h2
end Go.AB
namespace Go.AB
open Go Go.RowKit
open Go.AB.Enc (cells)
section
variable {P : Program} {o : Oper} {st : St} {K : St → Prop}
/-- An empty slice that is built: owned. -/
theorem ye {t e : TypeId} {sz bytes : Nat} [AppT P t e sz bytes] (ho : o.op = .buildSlice t 0 #[]) (hsz1 : 1 ≤ sz) (h : K (St.put { st with G := ai st.G st.nx (.arr 0 0 e sz 0 []), nx := st.nx + 1 } o.dst (.own st.nx 0 0))) : EStep P o st K :=
 lp fun E w a hsim => by
  obtain ⟨ht, i, z, hie, hz, h1, h2, h3⟩ := AppT.spec (P := P) (t := t) (e := e) (sz := sz) (bytes := bytes)
  obtain ⟨ob, hob⟩ : ∃ ob, ob = Obj.cells #[] e := ⟨_, rfl⟩
  have hev := Ev.laid hsim.g (o := ob) 0 (.inl rfl)
  have hg := SimG.laid hsim.g (o := ob) 0 (.inl rfl)
  have hnew : (w.alloc ob).heap[w.heap.size]? = some ob := tw w ob
  have hsz : (w.alloc ob).heap.size = w.heap.size + 1 := by simp
  have hold : ∀ n tt b, (E.lay w.heap.size 0).T n = some tt → blk tt.2.2 = some b → b < w.heap.size := fun n tt b h5 h6 => (hsim.g.tb n _ _ _ b h5 h6).2
  have hnx := hsim.g.nx
  have hfr : ∀ b o', blk (.slice (some ⟨w.heap.size, 0, none⟩) 0 0) = some b → w.heap[b]? = some o' → False := fun b o' hbk ho' => by
   simp only [blk, Option.some.injEq] at hbk
   subst hbk
   have := (Array.getElem?_eq_some_iff.1 ho').1
   omega
  have hev2 := hev.thenName (.slice (some ⟨w.heap.size, 0, none⟩) 0 0) hfr
  have hg2 := SimG.name hg (.slice (some ⟨w.heap.size, 0, none⟩) 0 0) (.arr 0 0 e sz 0 []) (fun b hbk => by
   simp only [blk, Option.some.injEq] at hbk
   subst hbk
   exact ⟨hsim.g.base, by rw [hsz]; omega, fun n tt h5 h6 => absurd (hold n tt _ h5 h6) (by omega)⟩) (by
   refine ⟨.slice (some ⟨w.heap.size, 0, none⟩) 0 0, [], ?_, ⟨by simp, .inr ⟨w.heap.size, 0, _, rfl, hsim.g.base, hnew.trans (by rw [hob]), Nat.le_refl _, Nat.zero_le _, by simp, by simp⟩⟩, fun c hc => (by cases hc), Rs.nil, fun b hbk => ?_, hsz1⟩
   ·simp [Env.name, Env.lay, hnx]
   ·simp only [blk, Option.some.injEq] at hbk
    subst hbk
    simp [Env.name, Env.lay])
  refine ⟨.slice (some ⟨w.heap.size, 0, none⟩) 0 0, w.alloc ob, _, _, _, .own st.nx 0 0, ?_, hev2, ?_, hg2, h⟩
  ·subst hob
   simp [execOp, ho, Instr.buildSlice, run_underlying ht, sizeOf, typeInfo, hie, Instr.fill, newRow, newObj, Sem.run, show (Array.map (fun _ => (default : Value)) (Array.range 0)) = #[] from by simp]
  ·refine R.own (by simp [Env.name, Env.lay]; omega) (Nat.le_refl _) (Nat.zero_le _) fun ver wv val htt => ?_
   simp only [Env.name, Env.lay, hnx, if_true, Option.some.injEq, Prod.mk.injEq] at htt
   obtain ⟨rfl, rfl, rfl⟩ := htt
   exact ⟨Nat.le_refl _, fun _ => ⟨_, Nat.le_refl _, rfl⟩⟩
end
end Go.AB
namespace Go.AB
open Go Go.RowKit
open Go.AB.Enc (cells)
variable {ρ : Option Nat}
section
variable {P : Program} {Q : Exit → St → Prop} {st : St}
theorem Back.simN {E0 E' : Env} {w0 w' : World} {a0 a' : Act} {st' : St} {u : List (Nat × C)} {g : Nat → Option GObj} {M : Nat} (h0 : Sim E0 w0 st a0) (hr : st.r = []) (hM : st.nx ≤ M) (hb : Back { st with nx := M } u g st') (hu : re M u) (hg : ∀ n o, g n = some o → st.G n = some o ∨ (n < M ∧ o.low M))
  (hev : Ev E0 w0 E' w') (hs : Sim E' w' st' a') : Ev E0 w0 (E'.drop M) w' ∧ Sim (E'.drop M) w' { st with r := u, G := g, nx := M } a' := by
 have h1 := h0.g.nx
 refine ⟨hev.drop (by omega), ?_⟩
 have hlow : ∀ i, i < st.n → (bz st.l u i).low M := fun i hi => by
  rcases xy st.l u i with ⟨p, hp, _, he⟩ | ⟨_, he⟩
  ·rw [he]; exact ucr hu p hp
  ·rw [he]
   have := h0.low i hi
   rw [hr] at this
   exact C.low.mono this hM
 have hcl : ∀ i, bz st.l u i = .any ∨ bz st.l u i = bz st'.l st'.r i := fun i => by
  by_cases hi : i < st.l.length
  ·rcases uao _ _ hb.fits i (Nat.zero_le _) (by show i < 0 + st.l.length; omega) with h | h
   ·exact .inl h
   ·exact .inr h.symm
  ·rcases xy st.l u i with ⟨p, hp, he, he2⟩ | ⟨_, he⟩
   ·rcases hb.keys with hk | hk
    ·have h2 : p.1 < st.l.length := uad hk p hp
     omega
    ·rcases uan hk p hp with h | h
     ·left; rw [he2, h]
     ·right; rw [he2, ← h, he]
   ·left; rw [he, List.getD_eq_getElem?_getD, List.getElem?_eq_none (by omega)]; rfl
 refine hs.dropTo (st' := { st with r := u, G := g, nx := M }) hb.n.1.symm hb.n.2.symm hb.nx (fun i hi => ?_) fun n o ho => ⟨hb.G n o ho, ?_⟩
 ·rcases hcl i with h2 | h2
  ·exact .inl h2
  ·exact .inr ⟨h2, hlow i (hb.n.1 ▸ hi)⟩
 ·rcases hg n o ho with h2 | h2
  ·have := h0.lowG n o h2
   exact ⟨by have := this.1; show n < M; omega, GObj.low_mono this.2 hM⟩
  ·exact h2
/-- A loop whose rounds may make names, of which some stay. -/
theorem uua {X : Type} {c : Code} (I : X → Prop) (μ : X → Nat) (u : X → List (Nat × C)) (g : X → (Nat → Option GObj) → Nat → Option GObj) (N : X → Nat) (x0 : X) (hr : st.r = []) (h0 : I x0) (e0 : s9 st.l [] (u x0)) (n0 : N x0 = st.nx) (g0 : ∀ n o, g x0 st.G n = some o → st.G n = some o)
  (hN : ∀ x, I x → st.nx ≤ N x) (hu : ∀ x, I x → re (N x) (u x)) (hg : ∀ x, I x → ∀ n o, g x st.G n = some o → st.G n = some o ∨ (n < N x ∧ o.low (N x)))
  (round : ∀ x, I x → AW ρ P c (qm (fun st' => ∃ x', μ x' < μ x ∧ I x' ∧ Back { st with nx := N x' } (u x') (g x' st.G) st') Q) { st with r := u x, G := g x st.G, nx := N x }) : AW ρ P (.loop c) Q st := by
 intro E w a hs
 refine udb (fun m a1 w1 => ∃ x E1, m = μ x ∧ I x ∧ Ev E w E1 w1 ∧ Sim E1 w1 { st with r := u x, G := g x st.G, nx := N x } a1) (μ x0) ⟨x0, E, rfl, h0, Ev.refl E w, ?_⟩ ?_
 ·have h1 : Sim E w { st with r := u x0 } a := le_r (n := st.n) (G := st.G) (nx := st.nx) (df := st.df) e0 rfl E w a (by rw [← hr]; exact hs)
  rw [n0]
  exact le_G (st := { st with r := u x0 }) g0 E w a h1
 ·rintro m a1 w1 ⟨x, E1, rfl, hI, hev, hs1⟩
  refine i0 ?_ (round x hI E1 w1 a1 hs1)
  rintro e a' w' ⟨st', E', h1, h2, h3⟩
  cases e with
  | normal =>
   obtain ⟨x', h4, h5, h6⟩ := h3
   obtain ⟨h7, h8⟩ := Back.simN hs hr (hN x' h5) h6 (hu x' h5) (hg x' h5) (hev.trans h1) h2
   exact ⟨μ x', h4, x', _, rfl, h5, h7, h8⟩
  | _ => exact nd (hev.trans h1) ⟨st', E', Ev.refl _ _, h2, h3⟩
end
section
variable {P : Program} {o : Oper} {st : St} {K : St → Prop}
end
end Go.AB
namespace Go.AB
open Go Go.RowKit
theorem uj6 {ρ : Option Nat} {P : Program} {Q : Exit → St → Prop} {st : St} {X : Type} {x y : Code} (I : X → Prop) (u : X → List (Nat × C)) (g : X → (Nat → Option GObj) → Nat → Option GObj) (N : X → Nat) (hr : st.r = [])
  (hN : ∀ x, I x → st.nx ≤ N x) (hu : ∀ x, I x → re (N x) (u x)) (hg : ∀ x, I x → ∀ n o, g x st.G n = some o → st.G n = some o ∨ (n < N x ∧ o.low (N x)))
  (h1 : AW ρ P x (qm (fun st' => ∃ x', I x' ∧ Back { st with nx := N x' } (u x') (g x' st.G) st') Q) st) (h2 : ∀ x', I x' → AW ρ P y Q { st with r := u x', G := g x' st.G, nx := N x' }) : AW ρ P (.seq x y) Q st := by
 intro E w a hs
 refine wpIn_seq (i0 ?_ (h1 E w a hs))
 rintro e a' w' ⟨st', E', q1, q2, q3⟩
 cases e with
 | normal =>
  obtain ⟨x', h5, h6⟩ := q3
  obtain ⟨h7, h8⟩ := Back.simN hs hr (hN x' h5) h6 (hu x' h5) (hg x' h5) q1 q2
  exact i0 (fun _ _ _ hq => nd h7 hq) (h2 x' h5 _ w' a' h8)
 | _ => exact ⟨st', E', q1, q2, q3⟩
/-- What stands in a slot is known less well. -/
theorem ua0 {ρ : Option Nat} {P : Program} {Q : Exit → St → Prop} {st : St} {x : Code} (i : Nat) {c : C} (c' : C) (h0 : st.at i = c) (hw : Wk c c') (h : AW ρ P x Q { st with r := (i, c') :: st.r }) : AW ρ P x Q st := by
 intro E w a hs
 have hp := hs.at i
 rw [h0] at hp
 refine h E w a ⟨hs.d, hs.sz, fun j v hj => ?_, hs.g⟩
 simp only [bz]
 cases hb : Nat.beq i j
 ·exact hs.t j v hj
 ·have hij := Nat.eq_of_beq_eq_true hb
  subst hij
  have hv : a.tmps.getD i undef = v := by rw [Array.getD_eq_getD_getElem?, hj]; rfl
  rw [hv] at hp
  exact hw.2 _ _ _ hp
end Go.AB
namespace Go.AB
open Go Go.RowKit
open Go.AB.Enc (cells)
open Go.PB (ay aj PlaceD bg bi bh bn ak ah cr bq dr dt)
theorem uil {l : List Int} {k : Nat} {z : Int} (h : l[k]? = some z) : (az l)[k]? = some (.v (.int .i64 z)) := by
 have e : az l = l.map fun y => .v (.int .i64 y) := by
  clear h
  induction l with
  | nil => rfl
  | cons y l ih =>
   have h1 : az (y :: l) = cells y ++ az l := by simp [az]
   rw [h1, ih]; rfl
 rw [e, List.getElem?_map, h]; rfl
end Go.AB
namespace Go.Proofs.YtgffhbbcpgdjjaaGreatDoor
set_option maxRecDepth 10000
open Go.RowKit Go.AB
open Go.AB.Enc (cells)
open Go.PB (ay aj PlaceD bg bi bh bn ak ah cr bq dr dt)
theorem ub4 {p : ah} (h : et p) {j : Nat} {x : ak} (hx : p.pages[j]? = some x) {k : Nat} (hk : k < (eg p x).length) : ∃ zn : Nat, (eg p x)[k]? = some (zn : Int) ∧ zn < co p := by
 have hp := pageB_true.1 (h.page j x hx)
 have h1 := hp.fst
 have h2 := hp.snd
 obtain ⟨z, hz⟩ : ∃ z, (eg p x)[k]? = some z := ⟨_, List.getElem?_eq_getElem hk⟩
 have hm := List.mem_of_getElem? hz
 have hb : 0 ≤ z ∧ z < (co p : Int) := by
  unfold eg at hm
  unfold co
  rw [List.mem_append] at hm
  rcases hm with hm | hm
  ·by_cases q : 0 ≤ x.fst
   ·rw [decide_eq_true q, cond_true, List.mem_singleton] at hm; omega
   rw [decide_eq_false q] at hm; cases hm
  by_cases q : 0 ≤ x.snd
  ·rw [decide_eq_true q, cond_true, List.mem_singleton] at hm; omega
  rw [decide_eq_false q] at hm; cases hm
 exact ⟨z.toNat, by rw [hz]; congr 1; omega, by omega⟩
end Go.Proofs.YtgffhbbcpgdjjaaGreatDoor
namespace Go.AB
open Go Go.RowKit
open Go.AB.Enc (cells)
open Go.PB (ay aj PlaceD bg bi bh bn ak ah cr bq dr dt)
theorem ujv (r : Int) (s i : Nat) : r * ((s / 2 ^ i % 2 : Nat) : Int) = bif s.testBit i then r else 0 := by
 have h2 : s / 2 ^ i % 2 < 2 := Nat.mod_lt _ (by omega)
 cases hb : s.testBit i
 ·have : s / 2 ^ i % 2 = 0 := by
   have : ¬ ((s / 2 ^ i % 2 : Nat) : Int) = 1 := fun e => by
    have := bit_eq.1 e
    rw [hb] at this; cases this
   omega
  rw [this]; simp
 have : s / 2 ^ i % 2 = 1 := by have := bit_eq.2 hb; omega
 rw [this]; simp
theorem ut1 (s i : Nat) : decide (((s / 2 ^ i % 2 : Nat) : Int) = 1) = s.testBit i := by
 rw [Bool.eq_iff_iff, decide_eq_true_eq]
 exact bit_eq
theorem uoq {p : ah} (h : et p) {j : Nat} {x : ak} (hx : p.pages[j]? = some x) {z : Int} (hz : z ∈ eg p x) : ∃ zn : Nat, z = (zn : Int) ∧ zn ≤ 6 := by
 obtain ⟨k, hk⟩ := List.getElem?_of_mem hz
 obtain ⟨zn, h1, h2⟩ := uop h hx (List.getElem?_eq_some_iff.1 hk).1
 rw [hk] at h1
 cases h1
 exact ⟨zn, rfl, h2⟩
theorem zi {p : ah} {j : Nat} {x : ak} (hx : p.pages[j]? = some x) : (p.pages.map (eg p))[j]? = some (eg p x) := by rw [List.getElem?_map, hx]; rfl
end Go.AB
namespace Go.Proofs.YtgffhbbcpgdjjaaGreatDoor
set_option maxRecDepth 10000
open Go.RowKit Go.AB
open Go.AB.Enc (cells)
open Go.PB (ay aj PlaceD bg bi bh bn ak ah cr bq dr dt)
theorem upq (k s : Nat) (hk : k ≤ 64) (hs : s ≤ 1000) : Pure Tryz.prog 74 [.v (.int .i64 (k : Int)), .elem [.v (.int .i64 (s : Int))]] (.v (.bool (s.testBit k))) := by
 refine dg Tryz.func74 rfl (fun m => .v) fun G nx => ?_
 simp only [Tryz.ntmps74, List.length_cons, List.length_nil, Nat.reduceAdd, Nat.reduceSub]
 refine cb fun hlt => ?_
 dsimp only at hlt
 refine yS fun _ K1 => ?_
 refine yR ?_
 refine yA rfl rfl ?_
 refine yN ?_
 dsimp only [St.put]
 refine K1 _ ?_
 refine yS fun _ K2 => ?_
 refine yR ?_
 refine yL rfl rfl rfl ?_
 refine yM rfl rfl ?_
 refine aa rfl (ucl (m := s) (n := k) rfl rfl rfl hk (by show (s : Int) ≤ 9223372036854775807; omega) (by decide)) ?_
 refine aa rfl (ucm (m := s / 2 ^ k) rfl rfl rfl (Nat.lt_of_le_of_lt (Nat.div_le_self _ _) (by show s < 2 ^ 64; omega)) (by decide)) ?_
 refine aa rfl (gl rfl rfl rfl) ?_
 refine yA rfl rfl ?_
 refine yN ?_
 dsimp only [St.put]
 refine K2 _ ?_
 refine ar ?_
 refine bj rfl (by constructor) zN zS ?_
 exact vb (ut1 s k)
set_option maxHeartbeats 1000000 in
theorem ugd (p : ah) (R C : Nat → Int) (s : Nat) (h : et p) (hB : Bd p R C) (hs : s ≤ 1000) : Pure Tryz.prog 56 [val (ib p R C), .v (.int .i64 (s : Int))] (.v (.int .i64 ((bx p).f R C fun i => s.testBit i))) := by
 refine dg Tryz.func56 rfl (fun m => .v) fun G nx => ?_
 simp only [Tryz.ntmps56, List.length_cons, List.length_nil, Nat.reduceAdd, Nat.reduceSub]
 refine cb fun hlt => ?_
 dsimp only at hlt
 have hnr := hB.nr
 have hnp := hB.np
 have hl1 := jq (co p) R
 have hl2 := jq p.pages.length C
 refine yS fun _ K1 => ?_
 refine yR ?_
 try dsimp only [St.put]
 refine yB rfl rfl rfl ?_
 try dsimp only [St.put]
 refine yB rfl rfl rfl ?_
 refine yA rfl rfl ?_
 refine yN ?_
 dsimp only [St.put]
 refine K1 _ ?_
 refine yS fun _ K2 => ?_
 refine yR ?_
 refine yA rfl rfl ?_
 refine yN ?_
 dsimp only [St.put]
 refine K2 _ ?_
 refine yS fun _ K3 => ?_
 refine yS fun _ K4 => ?_
 refine yR ?_
 refine yF rfl rfl rfl rfl ?_
 refine yL rfl rfl rfl ?_
 refine aa rfl (bp rfl rfl (List.length_map _)) ?_
 refine yM rfl rfl ?_
 refine yN ?_
 dsimp only [St.put]
 refine K4 _ ?_
 refine bf ?_
 refine cm 14 ?_
 refine zQ ?_
 refine dm (G) zX ?_
 dsimp only
 refine dj (X := Nat) (fun i => i ≤ co p) (fun i => co p - i) (fun i => [(5, .v (.int .i64 (fR R (fun i => s.testBit i) i))), (6, .any), (7, .any), (13, .v (.int .i64 (i : Int)))]) (fun i G' => G') 0 rfl ?_ ?_ (fun _ _ h => h) ?_ ?_ ?_
 ·exact Nat.zero_le _
 ·exact zF
 ·rintro i hI
  exact zL
 ·exact fun _ _ _ _ h => .inl h
 rintro i hI
 dsimp only at hI ⊢
 refine yS fun _ K5 => ?_
 refine yR ?_
 refine aa rfl (ck rfl rfl rfl) ?_
 refine yN ?_
 dsimp only [St.put]
 refine K5 _ ?_
 refine yS fun _ K6 => ?_
 refine aq rfl (fun hc => ?_) (fun hc => ?_)
 ·replace hc := of_decide_eq_true hc
  have hi : i < co p := by
   have : (i : Int) < ((cc (co p) R).length : Int) := hc
   rw [hl1] at this
   omega
  have hRi := lv R hi
  have hbd := uc6 hB (fun i => s.testBit i) i (by omega)
  have hrb := hB.r i
  have hmb : -1000000 ≤ R i * ((s / 2 ^ i % 2 : Nat) : Int) ∧ R i * ((s / 2 ^ i % 2 : Nat) : Int) ≤ 1000000 := by
   rw [ujv]
   cases s.testBit i
   ·show -1000000 ≤ (0 : Int) ∧ (0 : Int) ≤ 1000000
    omega
   exact hrb
  refine ax ?_
  refine K6 _ ?_
  refine yS fun _ K7 => ?_
  refine bf ?_
  refine yS fun _ K8 => ?_
  refine yR ?_
  refine yM rfl rfl ?_
  refine aa rfl (bw rfl rfl rfl rfl (bu (by assumption)) (Enc.len _)) ?_
  refine yL rfl rfl rfl ?_
  refine yA rfl rfl ?_
  refine yA rfl rfl ?_
  refine yN ?_
  dsimp only [St.put]
  refine K8 _ ?_
  refine yR ?_
  refine yM rfl rfl ?_
  refine yM rfl rfl ?_
  refine yL rfl rfl rfl ?_
  refine yM rfl rfl ?_
  refine aa rfl (ucl (m := s) (n := i) rfl rfl rfl (by show i ≤ 64; omega) (by show (s : Int) ≤ 9223372036854775807; omega) (by decide)) ?_
  refine aa rfl (ucm (m := s / 2 ^ i) rfl rfl rfl (Nat.lt_of_le_of_lt (Nat.div_le_self _ _) (by show s < 2 ^ 64; omega)) (by decide)) ?_
  refine aa rfl (ra rfl rfl rfl (by omega)) ?_
  refine aa rfl (br rfl rfl rfl (by omega)) ?_
  refine yA rfl rfl ?_
  refine yN ?_
  dsimp only [St.put]
  refine K7 _ ?_
  refine yR ?_
  refine aa rfl (br rfl rfl rfl (by omega)) ?_
  refine yM rfl rfl ?_
  refine yN ?_
  dsimp only [St.put]
  rw [ujv, ← usm R (fun i => s.testBit i) i]
  exact ⟨i + 1, by omega, by omega, ⟨⟨rfl, rfl⟩, zF, zB, zN, zX⟩⟩
 replace hc := of_decide_eq_false hc
 obtain rfl : i = co p := by
  have : ¬ (i : Int) < ((cc (co p) R).length : Int) := hc
  rw [hl1] at this
  omega
 have hfr := uc6 hB (fun i => s.testBit i) _ (Nat.le_refl (co p))
 obtain ⟨FR, hFR⟩ : ∃ FR, fR R (fun i => s.testBit i) (co p) = FR := ⟨_, rfl⟩
 rw [hFR] at hfr
 refine c6 ?_
 refine K3 _ ?_
 refine yS fun _ K9 => ?_
 refine yS fun _ K10 => ?_
 refine yR ?_
 refine yF rfl rfl rfl rfl ?_
 refine yL rfl rfl rfl ?_
 refine aa rfl (bp rfl rfl (List.length_map _)) ?_
 refine yM rfl rfl ?_
 refine yN ?_
 dsimp only [St.put]
 rw [hFR, show FR = FR + fC p C (fun i => s.testBit i) 0 by show FR = FR + 0; omega]
 refine K10 _ ?_
 refine bf ?_
 refine cm 31 ?_
 refine zQ ?_
 refine dm (G) zX ?_
 dsimp only
 refine dj (X := Nat) (fun j => j ≤ p.pages.length) (fun j => p.pages.length - j) (fun j => [(5, .v (.int .i64 (FR + fC p C (fun i => s.testBit i) j))), (8, .any), (9, .any), (30, .v (.int .i64 (j : Int)))]) (fun j G' => G') 0 rfl ?_ ?_ (fun _ _ h => h) ?_ ?_ ?_
 ·exact Nat.zero_le _
 ·exact zF
 ·rintro j hI
  exact zL
 ·exact fun _ _ _ _ h => .inl h
 rintro j hJ
 dsimp only at hJ ⊢
 refine yS fun _ K11 => ?_
 refine yR ?_
 refine aa rfl (ck rfl rfl rfl) ?_
 refine yN ?_
 dsimp only [St.put]
 refine K11 _ ?_
 refine yS fun _ K12 => ?_
 refine aq rfl (fun hc => ?_) (fun hc => ?_)
 ·replace hc := of_decide_eq_true hc
  have hj : j < p.pages.length := by
   have : (j : Int) < ((cc p.pages.length C).length : Int) := hc
   rw [hl2] at this
   omega
  obtain ⟨x, hx⟩ : ∃ x, p.pages[j]? = some x := dl hj
  have hrx := zi hx
  have hCj := lv C hj
  have hcb := hB.c j
  have hfc := uiy hB (fun i => s.testBit i) j (by omega)
  have hhit := urz hx fun i => s.testBit i
  refine ax ?_
  refine K12 _ ?_
  refine yS fun _ K13 => ?_
  refine bf ?_
  refine yS fun _ K14 => ?_
  refine yR ?_
  refine yM rfl rfl ?_
  refine aa rfl (bw rfl rfl rfl rfl (bu (by assumption)) (Enc.len _)) ?_
  refine yL rfl rfl rfl ?_
  refine yA rfl rfl ?_
  refine yA rfl rfl ?_
  refine yN ?_
  dsimp only [St.put]
  refine K14 _ ?_
  refine yS fun _ K15 => ?_
  refine yR ?_
  refine yF rfl rfl rfl rfl ?_
  refine yL rfl rfl rfl ?_
  refine yM rfl rfl ?_
  refine aa rfl (bw rfl rfl rfl rfl (bu (by assumption)) (Enc.len _)) ?_
  refine yL rfl rfl rfl ?_
  refine aa rfl (tn rfl rfl) ?_
  try dsimp only [St.put]
  refine ae rfl (ba rfl rfl rfl (ua8 (eg p x) (fun z => s.testBit z.toNat) _ _ fun z hz => by obtain ⟨zn, rfl, h6⟩ := uoq h hx hz; exact upq zn s (by omega) hs) ?_)
  refine aa rfl (ei rfl rfl) ?_
  refine yN ?_
  dsimp only [St.put]
  refine K15 _ ?_
  refine aq rfl (fun hc => ?_) (fun hc => ?_)
  ·have hhn : (bx p).hit (fun i => s.testBit i) j = false := by rw [hhit]; simpa using hc
   refine yR ?_
   refine yM rfl rfl ?_
   refine yM rfl rfl ?_
   refine aa rfl (br rfl rfl rfl (by omega)) ?_
   refine yA rfl rfl ?_
   refine yN ?_
   dsimp only [St.put]
   refine K13 _ ?_
   refine yR ?_
   refine aa rfl (br rfl rfl rfl (by omega)) ?_
   refine yM rfl rfl ?_
   refine yN ?_
   dsimp only [St.put]
   have e := uix p C (fun i => s.testBit i) j
   first
   | (have z : (bx p).hit (fun i => s.testBit i) j = true := hhy
      rw [z, cond_true, Int.add_zero] at e
      rw [← e]
      exact ⟨j + 1, by omega, by omega, ⟨⟨rfl, rfl⟩, zF, zB, zN, zX⟩⟩)
   | (have z : (bx p).hit (fun i => s.testBit i) j = false := hhn
      rw [z, cond_false] at e
      rw [Int.add_assoc, ← e]
      exact ⟨j + 1, by omega, by omega, ⟨⟨rfl, rfl⟩, zF, zB, zN, zX⟩⟩)
  have hhy : (bx p).hit (fun i => s.testBit i) j = true := by rw [hhit]; simpa using hc
  refine ax ?_
  refine K13 _ ?_
  refine yR ?_
  refine aa rfl (br rfl rfl rfl (by omega)) ?_
  refine yM rfl rfl ?_
  refine yN ?_
  dsimp only [St.put]
  have e := uix p C (fun i => s.testBit i) j
  first
  | (have z : (bx p).hit (fun i => s.testBit i) j = true := hhy
     rw [z, cond_true, Int.add_zero] at e
     rw [← e]
     exact ⟨j + 1, by omega, by omega, ⟨⟨rfl, rfl⟩, zF, zB, zN, zX⟩⟩)
  | (have z : (bx p).hit (fun i => s.testBit i) j = false := hhn
     rw [z, cond_false] at e
     rw [Int.add_assoc, ← e]
     exact ⟨j + 1, by omega, by omega, ⟨⟨rfl, rfl⟩, zF, zB, zN, zX⟩⟩)
 replace hc := of_decide_eq_false hc
 obtain rfl : j = p.pages.length := by
  have : ¬ (j : Int) < ((cc p.pages.length C).length : Int) := hc
  rw [hl2] at this
  omega
 refine c6 ?_
 refine K9 _ ?_
 refine yS fun _ K16 => ?_
 refine yR ?_
 refine yM rfl rfl ?_
 refine yA rfl rfl ?_
 refine yN ?_
 dsimp only [St.put]
 refine K16 _ ?_
 refine ar ?_
 refine bj rfl (by constructor) zN zS ?_
 exact vi (by rw [uit, hFR])
set_option maxHeartbeats 1000000 in
theorem w9 (p : ah) (R C : Nat → Int) (h : et p) (hB : Bd p R C) : Pure Tryz.prog 45 [val (ib p R C)] (.v (.int .i64 ((bx p).most R C))) := by
 refine dg Tryz.func45 rfl (fun m => .v) fun G nx => ?_
 simp only [Tryz.ntmps45, List.length_cons, List.length_nil, Nat.reduceAdd, Nat.reduceSub]
 refine cb fun hlt => ?_
 dsimp only at hlt
 have hnr := hB.nr
 have hl1 := jq (co p) R
 have h64 : 2 ^ co p ≤ 2 ^ 6 := Nat.pow_le_pow_right (by omega) hnr
 have hpos : 0 < 2 ^ co p := Nat.two_pow_pos _
 obtain ⟨g, hg⟩ : ∃ g : Nat → Int, (fun s => (bx p).f R C fun i => s.testBit i) = g := ⟨_, rfl⟩
 have hgs : ∀ s : Nat, (bx p).f R C (fun i => s.testBit i) = g s := fun s => congrFun hg s
 have hP : ∀ s : Nat, s ≤ 1000 → Pure Tryz.prog 56 [val (ib p R C), .v (.int .i64 (s : Int))] (.v (.int .i64 (g s))) := fun s hs => by
  have := ugd p R C s h hB hs
  rwa [hgs] at this
 have hgb : ∀ s, -6000000 ≤ g s ∧ g s ≤ 14000000 := fun s => by rw [← hgs]; exact f_bd hB _
 refine yS fun _ K1 => ?_
 refine yR ?_
 try dsimp only [St.put]
 refine yB rfl rfl rfl ?_
 refine yA rfl rfl ?_
 refine yN ?_
 dsimp only [St.put]
 refine K1 _ ?_
 refine yS fun _ K2 => ?_
 refine yR ?_
 try dsimp only [St.put]
 refine bk rfl (c := val (ib p R C)) (jx (cs := cells (ib p R C)) rfl rfl (show 3 ≤ 3 by decide)) ?_
 try dsimp only [St.put]
 refine ae rfl (ba rfl rfl rfl (hP 0 (by omega)) ?_)
 refine yA rfl rfl ?_
 refine yN ?_
 dsimp only [St.put]
 refine K2 _ ?_
 refine yS fun _ K3 => ?_
 refine yS fun _ K4 => ?_
 refine yR ?_
 refine yF rfl rfl rfl rfl ?_
 refine yL rfl rfl rfl ?_
 refine aa rfl (bp rfl rfl (List.length_map _)) ?_
 refine aa rfl (ugy (n := (cc (co p) R).length) rfl rfl rfl (by rw [hl1]; omega)) ?_
 refine yM rfl rfl ?_
 refine yN ?_
 dsimp only [St.put]
 refine K4 _ ?_
 refine bf ?_
 refine cm 12 ?_
 refine zQ ?_
 refine dm (G) zX ?_
 dsimp only
 refine dj (X := Nat) (fun s => s ≤ 2 ^ co p) (fun s => 2 ^ co p - s) (fun s => [(3, .v (.int .i64 (n9 g s))), (4, .any), (11, .v (.int .i64 (s : Int)))]) (fun s G' => G') 0 rfl ?_ ?_ (fun _ _ h => h) ?_ ?_ ?_
 ·exact Nat.zero_le _
 ·exact zF
 ·rintro s hI
  exact zL
 ·exact fun _ _ _ _ h => .inl h
 rintro s hI
 dsimp only at hI ⊢
 refine yS fun _ K5 => ?_
 refine yR ?_
 refine aa rfl (ck rfl rfl rfl) ?_
 refine yN ?_
 dsimp only [St.put]
 refine K5 _ ?_
 refine yS fun _ K6 => ?_
 refine aq rfl (fun hc => ?_) (fun hc => ?_)
 ·replace hc := of_decide_eq_true hc
  have hlt : s < 2 ^ co p := by
   have : (s : Int) < ((2 ^ (cc (co p) R).length : Nat) : Int) := hc
   rw [hl1] at this
   omega
  have hmb := uhe hgb s
  have hgb1 := hgb s
  refine ax ?_
  refine K6 _ ?_
  refine yS fun _ K7 => ?_
  refine bf ?_
  refine yS fun _ K8 => ?_
  refine yR ?_
  refine yM rfl rfl ?_
  refine yA rfl rfl ?_
  refine yN ?_
  dsimp only [St.put]
  refine K8 _ ?_
  refine yR ?_
  refine yM rfl rfl ?_
  try dsimp only [St.put]
  refine bk rfl (c := val (ib p R C)) (jx (cs := cells (ib p R C)) rfl rfl (show 3 ≤ 3 by decide)) ?_
  refine yM rfl rfl ?_
  try dsimp only [St.put]
  refine ae rfl (ba rfl rfl rfl (hP s (by omega)) ?_)
  refine aa rfl (ug1 rfl rfl rfl rfl) ?_
  refine yA rfl rfl ?_
  refine yN ?_
  dsimp only [St.put]
  refine K7 _ ?_
  refine yR ?_
  refine aa rfl (br rfl rfl rfl (by omega)) ?_
  refine yM rfl rfl ?_
  refine yN ?_
  dsimp only [St.put]
  rw [show min (n9 g s) (g s) = n9 g (s + 1) from rfl]
  exact ⟨s + 1, by omega, by omega, ⟨⟨rfl, rfl⟩, zF, zB, zN, zX⟩⟩
 replace hc := of_decide_eq_false hc
 obtain rfl : s = 2 ^ co p := by
  have : ¬ (s : Int) < ((2 ^ (cc (co p) R).length : Nat) : Int) := hc
  rw [hl1] at this
  omega
 refine c6 ?_
 refine K3 _ ?_
 refine yS fun _ K9 => ?_
 refine yR ?_
 refine yM rfl rfl ?_
 refine yA rfl rfl ?_
 refine yN ?_
 dsimp only [St.put]
 refine K9 _ ?_
 refine ar ?_
 refine bj rfl (by constructor) zN zS ?_
 exact vi (by unfold Net.most; rw [hg]; rfl)
theorem uge (p : ah) (R C : Nat → Int) (j : Nat) (x : ak) (h : et p) (hx : p.pages[j]? = some x) : Pure Tryz.prog 43 [val (ib p R C), .v (.int .i64 (j : Int))] (.v (.int .i64 ((bx p).alone R C j))) := by
 refine dg Tryz.func43 rfl (fun m => .v) fun G nx => ?_
 simp only [Tryz.ntmps43, List.length_cons, List.length_nil, Nat.reduceAdd, Nat.reduceSub]
 refine cb fun hlt => ?_
 dsimp only at hlt
 have hjl := (List.getElem?_eq_some_iff.1 hx).1
 have hCj := lv C hjl
 have hrx := zi hx
 have hn1 := h.nf
 have hn2 := h.ns
 have hnr : co p = p.firsts.length + p.seconds.length := rfl
 have hrl := ub5 p x
 refine yS fun _ K1 => ?_
 refine yR ?_
 try dsimp only [St.put]
 refine yB rfl rfl rfl ?_
 refine yA rfl rfl ?_
 refine yN ?_
 dsimp only [St.put]
 refine K1 _ ?_
 refine yS fun _ K2 => ?_
 refine yR ?_
 refine yF rfl rfl rfl rfl ?_
 refine yL rfl rfl rfl ?_
 refine yM rfl rfl ?_
 refine aa rfl (bw rfl rfl rfl rfl (bu (by assumption)) (Enc.len _)) ?_
 refine yL rfl rfl rfl ?_
 refine yA rfl rfl ?_
 refine yN ?_
 dsimp only [St.put]
 refine K2 _ ?_
 refine yS fun _ K3 => ?_
 refine yS fun _ K4 => ?_
 refine yR ?_
 refine yF rfl rfl rfl rfl ?_
 refine yL rfl rfl rfl ?_
 refine yM rfl rfl ?_
 refine aa rfl (bw rfl rfl rfl rfl (bu (by assumption)) (Enc.len _)) ?_
 refine yL rfl rfl rfl ?_
 refine aa rfl (bp rfl rfl (List.length_map _)) ?_
 refine yM rfl rfl ?_
 refine yN ?_
 dsimp only [St.put]
 refine K4 _ ?_
 refine bf ?_
 refine cm 20 ?_
 refine zQ ?_
 refine dm (G) zX ?_
 dsimp only
 refine dj (X := Nat) (fun k => k ≤ (eg p x).length) (fun k => (eg p x).length - k) (fun k => [(5, .v (.int .i64 (ux R (C j) ((eg p x).take k)))), (7, .any), (19, .v (.int .i64 (k : Int)))]) (fun k G' => G') 0 rfl ?_ ?_ (fun _ _ h => h) ?_ ?_ ?_
 ·exact Nat.zero_le _
 ·exact zF
 ·rintro k hI
  exact zL
 ·exact fun _ _ _ _ h => .inl h
 rintro k hI
 dsimp only at hI ⊢
 refine yS fun _ K5 => ?_
 refine yR ?_
 refine aa rfl (ck rfl rfl rfl) ?_
 refine yN ?_
 dsimp only [St.put]
 refine K5 _ ?_
 refine yS fun _ K6 => ?_
 refine aq rfl (fun hc => ?_) (fun hc => ?_)
 ·replace hc := of_decide_eq_true hc
  obtain ⟨zn, hz, hz6⟩ := ub4 h hx (k := k) (by omega)
  have hRz := lv R hz6
  refine ax ?_
  refine K6 _ ?_
  refine yS fun _ K7 => ?_
  refine bf ?_
  refine yS fun _ K8 => ?_
  refine yR ?_
  refine aa rfl (bw rfl rfl rfl rfl (bu (by assumption)) (Enc.len _)) ?_
  refine yL rfl rfl rfl ?_
  refine yA rfl rfl ?_
  refine yN ?_
  dsimp only [St.put]
  refine K8 _ ?_
  refine yR ?_
  refine yM rfl rfl ?_
  refine yF rfl rfl rfl rfl ?_
  refine yL rfl rfl rfl ?_
  refine yM rfl rfl ?_
  refine aa rfl (bw rfl rfl rfl rfl (bu (by assumption)) (Enc.len _)) ?_
  refine yL rfl rfl rfl ?_
  refine aa rfl (ug1 rfl rfl rfl rfl) ?_
  refine yA rfl rfl ?_
  refine yN ?_
  dsimp only [St.put]
  refine K7 _ ?_
  refine yR ?_
  refine aa rfl (br rfl rfl rfl (by omega)) ?_
  refine yM rfl rfl ?_
  refine yN ?_
  dsimp only [St.put]
  have e := uqv (R := R) (c := C j) hz
  rw [Int.toNat_natCast] at e
  rw [← e]
  exact ⟨k + 1, by omega, by omega, ⟨⟨rfl, rfl⟩, zF, zB, zN, zX⟩⟩
 replace hc := of_decide_eq_false hc
 refine c6 ?_
 refine K3 _ ?_
 refine yS fun _ K9 => ?_
 refine yR ?_
 refine yM rfl rfl ?_
 refine yA rfl rfl ?_
 refine yN ?_
 dsimp only [St.put]
 refine K9 _ ?_
 refine ar ?_
 refine bj rfl (by constructor) zN zS ?_
 exact vi (by rw [ia (show (eg p x).length ≤ k by omega), uue hx])
end Go.Proofs.YtgffhbbcpgdjjaaGreatDoor
namespace Go.AB
open Go Go.RowKit
/-- what an operation waits for -/
def o5 (o : Oper) : List Nat := (o.after.toList.filter fun e => Region.binds .any e).map (·.on)
def py (l : List Bool) : Nat := (l.filter fun b => !b).length
theorem zu : ∀ {l : List Bool} {i : Nat}, l[i]? = some false → py (l.set i true) + 1 = py l
 | [], i, h => by simp at h
 | b :: l, 0, h => by
  simp only [List.getElem?_cons_zero, Option.some.injEq] at h
  subst h
  simp [py]
 | b :: l, i + 1, h => by
  simp only [List.getElem?_cons_succ] at h
  have ih := zu h
  unfold py at ih ⊢
  cases b
  ·simp only [List.set_cons_succ, List.filter_cons, Bool.not_false, if_true, List.length_cons]; omega
  ·simp only [List.set_cons_succ, List.filter_cons, Bool.not_true, Bool.false_eq_true, if_false]; omega
theorem ugs {l : List Bool} (h : py l = 0) (i : Nat) : l[i]? ≠ some false := fun e => by
 have := zu e
 omega
theorem ub3 {ol : List Oper} {l : List Bool} {i : Nat} (h : i ∈ Region.ready .any ol.toArray l.toArray) (hl : l.length = ol.length) : ∃ o, ol[i]? = some o ∧ l[i]? = some false ∧ ∀ j ∈ o5 o, l[j]? = some true := by
 unfold Region.ready at h
 simp only [List.mem_filter, List.mem_range, List.size_toArray, Bool.and_eq_true, Bool.not_eq_true'] at h
 obtain ⟨h1, h2, h3⟩ := h
 obtain ⟨o, ho⟩ : ∃ o, ol[i]? = some o := ⟨_, List.getElem?_eq_getElem h1⟩
 refine ⟨o, ho, ?_, fun j hj => ?_⟩
 ·have e := List.getElem?_eq_getElem (l := l) (i := i) (by omega)
  rw [Array.getD_eq_getD_getElem?, List.getElem?_toArray, e] at h2
  rw [e, ← h2]; rfl
 ·rw [List.getElem?_toArray, ho] at h3
  simp only [Option.map_some, Option.getD_some] at h3
  rw [← Array.all_toList, List.all_eq_true] at h3
  unfold o5 at hj
  obtain ⟨e, he, rfl⟩ := List.mem_map.1 hj
  obtain ⟨he1, he2⟩ := List.mem_filter.1 he
  have := h3 e he1
  rw [he2, Bool.not_true, Bool.false_or, Array.getD_eq_getD_getElem?, List.getElem?_toArray] at this
  cases hb : l[e.on]? with
  | none => rw [hb] at this; cases this
  | some b => rw [hb] at this; rw [show b = true from this]
section
variable {P : Program} {ol : List Oper} {K : St → Prop} {late : Nat → Bool}
/-- one operation of what is left, by what holds behind it -/
def AOneI (P : Program) (ol : List Oper) (I : List Bool → St → Prop) (l : List Bool) (i : Nat) (st : St) : Prop :=
 ∃ o, ol[i]? = some o ∧ ((fl ol.toArray st o = some true ∧ EStep P o st (I (l.set i true))) ∨ (fl ol.toArray st o = some false ∧ I (l.set i true) (st.put o.dst (.tup []))))
/-- whether each operation waits only for earlier ones -/
def xz (ol : List Oper) : Bool := (List.range ol.length).all fun i => ((ol[i]?).map fun o => (o5 o).all fun j => decide (j < i)).getD true
theorem ub2 {l : List Bool} (hf : xz ol = true) (hl : l.length = ol.length) (h : Region.ready .any ol.toArray l.toArray = []) : ∀ i, i < ol.length → l[i]? = some true := by
 intro i
 induction i using Nat.strongRecOn with
 | _ i ih =>
  intro hi
  obtain ⟨o, ho⟩ : ∃ o, ol[i]? = some o := ⟨_, List.getElem?_eq_getElem hi⟩
  have e := List.getElem?_eq_getElem (l := l) (i := i) (by omega)
  cases hb : l[i]'(by omega) with
  | true => rw [e, hb]
  | false =>
   exfalso
   have hm : i ∈ Region.ready .any ol.toArray l.toArray := by
    unfold Region.ready
    simp only [List.mem_filter, List.mem_range, List.size_toArray, Bool.and_eq_true, Bool.not_eq_true']
    refine ⟨hi, by rw [Array.getD_eq_getD_getElem?, List.getElem?_toArray, e, hb]; rfl, ?_⟩
    rw [List.getElem?_toArray, ho]
    simp only [Option.map_some, Option.getD_some]
    rw [← Array.all_toList, List.all_eq_true]
    intro e1 he1
    cases hq : Region.binds .any e1 with
    | false => rfl
    | true =>
     rw [Bool.not_true, Bool.false_or, Array.getD_eq_getD_getElem?, List.getElem?_toArray]
     have hj : e1.on ∈ o5 o := List.mem_map.2 ⟨e1, List.mem_filter.2 ⟨he1, hq⟩, rfl⟩
     have h1 := List.all_eq_true.1 hf i (List.mem_range.2 hi)
     rw [ho] at h1
     simp only [Option.map_some, Option.getD_some, List.all_eq_true] at h1
     have hlt := of_decide_eq_true (h1 _ hj)
     rw [ih _ hlt (by omega)]; rfl
   rw [h] at hm
   cases hm
theorem udr (I : List Bool → St → Prop) (hf : xz ol = true) (hl : ∀ l st, I l st → l.length = ol.length)
  (hs : ∀ l st i o, I l st → ol[i]? = some o → l[i]? = some false → (∀ j ∈ o5 o, l[j]? = some true) → AOneI P ol I l i st)
  (he : ∀ l st, I l st → (∀ i, i < ol.length → l[i]? = some true) → K st) : ∀ (fuel : Nat) (l : List Bool) (st : St), I l st → py l = fuel → nw P ol K late fuel l st
 | 0, l, st, hI, h0 => by
  have hr : Region.ready .any ol.toArray l.toArray = [] := by
   cases h : Region.ready .any ol.toArray l.toArray with
   | nil => rfl
   | cons i is =>
    obtain ⟨o, _, h2, _⟩ := ub3 (i := i) (by rw [h]; exact List.mem_cons_self ..) (hl l st hI)
    exact absurd h2 (ugs h0 i)
  exact i9 (by rw [hr]; rfl) (he l st hI (ub2 hf (hl l st hI) hr))
 | fuel + 1, l, st, hI, h0 => by
  cases h : Region.ready .any ol.toArray l.toArray with
  | nil => exact i9 (by rw [h]; rfl) (he l st hI (ub2 hf (hl l st hI) h))
  | cons i is =>
   refine em (i :: is) (by rw [h]; exact beq_self_eq_true _) (by simp) ?_
   have hall : ∀ js : List Nat, (∀ j ∈ js, j ∈ Region.ready .any ol.toArray l.toArray) → vy P ol K late fuel l st js := by
    intro js
    induction js with
    | nil => intro _; trivial
    | cons j js ih =>
     intro hjs
     refine ⟨?_, ih fun k hk => hjs k (List.mem_cons_of_mem _ hk)⟩
     obtain ⟨o, ho, h2, h3⟩ := ub3 (hjs j (List.mem_cons_self ..)) (hl l st hI)
     have hn : py (l.set j true) = fuel := by have := zu h2; omega
     obtain ⟨o', ho', hc⟩ := hs l st j o hI ho h2 h3
     refine ⟨o', ho', ?_⟩
     rcases hc with ⟨hg, hE⟩ | ⟨hg, hE⟩
     ·exact .inl ⟨hg, hE.mono fun st' h' => udr I hf hl hs he fuel _ _ h' hn⟩
     ·exact .inr ⟨hg, udr I hf hl hs he fuel _ _ hE hn⟩
   exact hall (i :: is) fun j hj => by rw [h]; exact hj
end
theorem upx {w : World} {B B' : Nat} {tt : TypeId} {sz len : Nat} {val : Value} {us us' : List Value} (h : w.ownsRow B tt sz val len us) (k : w.ownsRow B' tt sz val len us') : us = us' := by
 obtain ⟨l1, h1⟩ := h
 obtain ⟨l2, h2⟩ := k
 rcases h1 with ⟨e, h0⟩ | ⟨g, cap, cur, e, _, hh, _, _, _, ht⟩
 ·subst h0
  rw [Nat.zero_mul] at l1 l2
  rw [List.length_eq_zero_iff.1 l1, List.length_eq_zero_iff.1 l2]
 ·rcases h2 with ⟨e', _⟩ | ⟨g', cap', cur', e', _, hh', _, _, _, ht'⟩
  ·rw [e] at e'; cases e'
  ·rw [e] at e'
   cases e'
   rw [hh] at hh'
   cases hh'
   rw [← ht, ← ht']
/-- an own slice laid for good, as a cell of another one holds it -/
theorem uj7 {P : Program} {ρ : Option Nat} {Q : Exit → St → Prop} {st : St} {c : Code} {α : Type} [Enc α] (m off : Nat) {n ver wv wm len sz verm szm lenm : Nat} {tt ttm : TypeId} {cs ds : List C} (xs : List α) (hM : st.G m = some (.arr verm wm ttm szm lenm ds)) (h0 : ds[off]? = some (.own n ver len)) (hG : st.G n = some (.arr ver wv tt sz len cs)) (hnm : m ≠ n) (hsz : sz = Enc.n α) (hcs : cs = az xs) (hlen : len = xs.length) (h : AW ρ P c Q { st with G := ai (og st.G n) m (.arr verm wm ttm szm lenm (ds.set off (lst xs))) }) : AW ρ P c Q st := by
 intro E w a hs
 obtain ⟨E', hE, hg', hl⟩ := ucc hs.g xs hG hsz hcs hlen
 obtain ⟨val, us, hT, how, hone, hr, hL, hpos⟩ := hg'.obj m (.arr verm wm ttm szm lenm ds) (by rw [ki hnm]; exact hM)
 obtain ⟨val2, us2, hT2, how2, _, hr2, _, _⟩ := hs.g.obj m _ hM
 have hs2 := hs.evd hE hg'
 have hTT : val = val2 := by
  obtain ⟨ver1, wv1, val1, q1, q2, q3⟩ := hE.T m (hs.g.lt m _ hT2) _ _ _ hT
  rw [hT2] at q1
  simp only [Option.some.injEq, Prod.mk.injEq] at q1
  obtain ⟨rfl, rfl, rfl⟩ := q1
  exact (q3 rfl).1.symm
 subst hTT
 have e1 : us = us2 := upx how how2
 subst e1
 refine i0 (fun _ _ _ hq => nd hE hq) (h E' w a ⟨hs.d.ev hE, hs.sz, hs2.t, ⟨hg'.nx, fun k o ho => ?_, hg'.lt, hg'.tb, hg'.ap, hg'.fresh, hg'.base⟩⟩)
 simp only [ai] at ho
 split at ho
 ·rename_i ek
  subst ek
  simp only [Option.some.injEq] at ho
  subst ho
  refine ⟨val, us, hT, how, fun d hd => ?_, ⟨by rw [hr.1]; simp, fun j d v hd hv => ?_⟩, hL, hpos⟩
  ·rcases List.mem_or_eq_of_mem_set hd with hd | rfl
   ·exact hone d hd
   ·rfl
  ·rw [List.getElem?_set] at hd
   split at hd
   ·rename_i ej
    subst ej
    split at hd
    ·simp only [Option.some.injEq] at hd
     subst hd
     exact hl v (hr2.2 off _ v h0 hv)
    ·cases hd
   ·exact hr.2 j d v hd hv
 ·exact hg'.obj k o ho
theorem uft {cs : List C} {i : Nat} {c c0 : C} (h : cs[i]? = some c0) : (putAt cs i [c]).set i c0 = cs := by
 have hl := (List.getElem?_eq_some_iff.1 h).1
 show (cs.set i c).set i c0 = cs
 rw [List.set_set]
 obtain rfl := Option.some.inj ((List.getElem?_eq_getElem hl).symm.trans h)
 exact List.set_getElem_self hl
end Go.AB
namespace Go.AB
open Go Go.RowKit
variable {ρ : Option Nat}
section
variable {P : Program} {ops : Array Oper} {Q : Exit → Act → World → Prop} {S : World → Prop} {late : Nat → Bool}
/-- Values alone: whatever has come up. -/
theorem uk4 {S2 : World → Prop} (fin : Act → World → Prop) (fuel : Nat) (hs : Region.noSelect ops = true) (hQ : ∀ (o : Option Tmp) (v : Value) c a w, Q (.panic c) (a.put o v) w → Q (.panic c) a w) :
  ∀ (π : List (Nat × Option Nat)) (listed : Array Bool) (a : Act) (w : World), Closed .any ops listed → o9 ops late (fun _ => true) π listed = true →
   (∀ a, fin a w → jn P .any ops Q S late fuel (nj π listed) a w) → im P ops (kd fin) S2 late (fun _ => false) (fun _ => true) π a w → jn P .any ops Q S late (il π + fuel) listed a w := by
 intro π
 induction π with
 | nil =>
  intro listed a w _ _ hf h
  have := hf a h
  simpa [il, nj] using this
 | cons p rest ih =>
  obtain ⟨i, m⟩ := p
  intro listed a w hcl hc hf h
  cases m with
  | some j => simp [o9] at hc
  | none =>
   simp only [o9, Bool.and_eq_true] at hc
   obtain ⟨⟨⟨⟨hready, hfree⟩, hsome⟩, hlate⟩, hc2⟩ := hc
   simp only [im, Bool.false_eq_true, if_false] at h
   cases ho : ops[i]? with
   | none => rw [ho] at hsome; cases hsome
   | some o =>
    rw [ho] at h
    obtain ⟨v, hy, hrest⟩ := h
    have hi : i ∈ Region.ready .any ops listed := by simpa using hready
    have hrec := ih _ _ _ (hcl.set hi) hc2 hf hrest
    have hp : il ((i, none) :: rest) + fuel = il rest + fuel + 1 := by simp only [il]; omega
    rw [hp]
    simp only [if_true] at hy
    exact v7 (depth := ops.size) (fun _ => True) ho (Region.noSelect_spec hs) (fun c a w => hQ o.dst v c a w) (.inl fun _ => trivial) (il rest + fuel) listed a w hcl (Region.free_spec ho hfree) hi hy trivial hrec
end
section
variable (P : Program) (ol : List Oper) (K : St → Prop) (D : List Nat) (late : Nat → Bool)
/-- What is left, in whatever order; b: something late has come up. -/
def me (b : Bool) (fuel : Nat) (listed : List Bool) (st : St) : Prop :=
 ∀ (E0 : Env) (w0 : World) (Q : Act → World → Prop), (∀ a' w' st' E', Ev E0 w0 E' w' → Sim E' w' st' a' → K st' → Q a' w') →
  ∀ E1 w1 a, Ev E0 w0 E1 w1 → Sim E1 w1 st a → (b = false → ∀ n ∈ D, E1.T n = E0.T n) → jn P .any ol.toArray (kd Q) (Keeps E0 (· ∈ D) w0) late fuel listed.toArray a w1
def ym (b : Bool) (fuel : Nat) (listed : List Bool) (i : Nat) (st : St) : Prop :=
 ∃ o, ol[i]? = some o ∧ fl ol.toArray st o = some true ∧ ((b = false ∧ EStep P o st fun st' => pf D st st' ∧ me P ol K D late false fuel (listed.set i true) st') ∨ (late i = true ∧ EStep P o st (me P ol K D late true fuel (listed.set i true))))
def vx (b : Bool) (fuel : Nat) (listed : List Bool) (st : St) : List Nat → Prop
 | [] => True
 | i :: is => ym P ol K D late b fuel listed i st ∧ vx b fuel listed st is
end
section
variable {P : Program} {ol : List Oper} {K : St → Prop} {D : List Nat} {late : Nat → Bool} {b : Bool} {fuel : Nat} {listed : List Bool} {st : St} {i : Nat} {is : List Nat} {o : Oper} {c : C}
theorem rr : vx P ol K D late b fuel listed st [] := trivial
theorem qi (h : ym P ol K D late b fuel listed i st) (k : vx P ol K D late b fuel listed st is) : vx P ol K D late b fuel listed st (i :: is) := ⟨h, k⟩
theorem ua3 (hol : ol[i]? = some o) (hg : fl ol.toArray st o = some true) {listed' : List Bool} (hl : listed.set i true = listed') (h : EStep P o st fun st' => pf D st st' ∧ me P ol K D late false fuel listed' st') : ym P ol K D late false fuel listed i st :=
 ⟨o, hol, hg, .inl ⟨rfl, by rw [hl]; exact h⟩⟩
theorem vr (hL : late i = true) (hol : ol[i]? = some o) (hg : fl ol.toArray st o = some true) {listed' : List Bool} (hl : listed.set i true = listed') (h : EStep P o st (me P ol K D late true fuel listed')) : ym P ol K D late b fuel listed i st :=
 ⟨o, hol, hg, .inr ⟨hL, by rw [hl]; exact h⟩⟩
theorem ua6 (hr : (Region.ready .any ol.toArray listed.toArray == []) = true) (h : K st) : me P ol K D late b fuel listed st := by
 intro E0 w0 Q hQ E1 w1 a hev hs _
 have hr' : Region.ready .any ol.toArray listed.toArray = [] := by simpa using hr
 have hq := hQ a w1 st E1 hev hs h
 cases fuel with
 | zero => exact ⟨hr', hq⟩
 | succ n => exact ⟨fun _ => hq, fun i hi => by rw [hr'] at hi; cases hi⟩
theorem qj (is : List Nat) (hr : (Region.ready .any ol.toArray listed.toArray == is) = true) (hne : is ≠ []) (h : vx P ol K D late b fuel listed st is) : me P ol K D late b (fuel + 1) listed st := by
 intro E0 w0 Q hQ E1 w1 a hev hs hb
 have hr' : Region.ready .any ol.toArray listed.toArray = is := by simpa using hr
 refine ⟨fun e => absurd (hr'.symm.trans e) hne, fun i hi => ?_⟩
 rw [hr'] at hi
 have hi' : ym P ol K D late b fuel listed i st := by
  clear hr hr' hne
  induction is with
  | nil => cases hi
  | cons j is ih =>
   rcases List.mem_cons.1 hi with rfl | hi
   ·exact h.1
   ·exact ih h.2 hi
 obtain ⟨o, hol, hg, hcase⟩ := hi'
 have ho : ol.toArray[i]? = some o := by simpa using hol
 have hset : listed.toArray.setIfInBounds i true = (listed.set i true).toArray := by simp
 refine wpOp_step ho fun Kr hK => ?_
 rw [if_pos (ng hg hs)]
 rcases hcase with ⟨rfl, h1⟩ | ⟨hL, h1⟩
 ·refine h1 E1 w1 a hs Kr _ fun a' w' st' E' q1 q2 q3 => ?_
  have hk := uag hs q1 q2 q3.1
  refine hK a' w' ⟨.inr fun hS => ⟨fun b j hj => (q1.cell b j (Nat.lt_of_lt_of_le hj (hev.L b))).trans (hS.1 b j hj), fun n hn ver wv val b ht hb' => ?_⟩, ?_⟩
  ·have := hb rfl n hn
   exact ((hk n hn).2 ver wv val b (this.trans ht) hb').trans (hS.2 n hn ver wv val b ht hb')
  ·rw [hset]
   exact q3.2 E0 w0 Q hQ E' w' a' (hev.trans q1) q2 fun e n hn => (hk n hn).1.trans (hb rfl n hn)
 ·refine h1 E1 w1 a hs Kr _ fun a' w' st' E' q1 q2 q3 => ?_
  refine hK a' w' ⟨.inl hL, ?_⟩
  rw [hset]
  exact q3 E0 w0 Q hQ E' w' a' (hev.trans q1) q2 fun e => by cases e
theorem ru {total : Nat} (π : List (Nat × Option Nat)) (fuel : Nat) (listed' : List Bool)
  (hchk : (udd ol.toArray listed.toArray && (Region.noSelect ol.toArray && (o9 ol.toArray late (fun _ => true) π listed.toArray && ((nj π listed.toArray).toList == listed' && total == il π + fuel)))) = true)
  (h : ko P ol.toArray (fun st' => pf D st st' ∧ me P ol K D late b fuel listed' st') [] late (fun _ => false) (fun _ => true) π st) : me P ol K D late b total listed st := by
 simp only [Bool.and_eq_true, beq_iff_eq] at hchk
 obtain ⟨h0, h1, h2, h3, h4⟩ := hchk
 subst h4
 intro E0 w0 Q hQ E1 w1 a hev hs hb
 have hend : nj π listed.toArray = listed'.toArray := by rw [← h3]
 refine uk4 (S2 := Keeps E1 (· ∈ ([] : List Nat)) w1) (fun a' w' => jn P .any ol.toArray (kd Q) (Keeps E0 (· ∈ D) w0) late fuel listed'.toArray a' w') fuel h1 (fun _ _ _ _ _ h => h) π _ a w1 (ujm h0) h2 (fun a' h' => by rw [hend]; exact h') ?_
 exact h E1 w1 _ (fun a' w' st' E' q1 q2 q3 => q3.2 E0 w0 Q hQ E' w' a' (hev.trans q1) q2 fun e n hn => ((uag hs q1 q2 q3.1) n hn).1.trans (hb e n hn)) a hs
theorem udm {id : Nat} {l : List Oper} {Q : Exit → St → Prop} (π : List (Nat × Option Nat)) (late N : Nat → Bool) (fuel : Nat) (listed : List Bool) (D : List Nat) (hm : P.follows .mixedOrders = true)
  (hchk : (uu l && (Region.noSelect l.toArray && (o9 l.toArray late N π (Array.replicate l.toArray.size false) && ((nj π (Array.replicate l.toArray.size false)).toList == listed && il π + fuel == l.toArray.size)))) = true)
  (h : ko P l.toArray (fun st' => pf D st st' ∧ me P l (Q .normal) D late false fuel listed st') D late (fun _ => false) N π st) : AW ρ P (.region id l.toArray true) Q st := by
 intro E w a hs
 simp only [Bool.and_eq_true, beq_iff_eq] at hchk
 obtain ⟨h0, h1, h2, h3, h4⟩ := hchk
 have hev : Ev E w E w.drew := Ev.same ((Below.refl _ _).drew) rfl
 have hend : nj π (Array.replicate l.toArray.size false) = listed.toArray := by rw [← h3]
 have key : jn P .any l.toArray (kd fun a' w' => p7 E w Q .normal a' w') (Keeps E (· ∈ D) w.drew) late (il π + fuel) (Array.replicate l.toArray.size false) a w.drew := by
  refine ua9 (fun a' w' => jn P .any l.toArray (kd fun a' w' => p7 E w Q .normal a' w') (Keeps E (· ∈ D) w.drew) late fuel listed.toArray a' w') fuel h1 (fun _ _ _ _ _ h => h) π _ a w.drew ?_ h2 (Keeps.refl _ _ _) (fun a' h' => by rw [hend]; exact h') ?_
  ·intro j o _ hj
   rw [Array.getD_eq_getD_getElem?, Array.getElem?_replicate] at hj
   split at hj <;> simp at hj
  ·exact h E w.drew _ (fun a' w' st' E' q1 q2 q3 => q3.2 E w.drew _ (fun a2 w2 st2 E2 r1 r2 r3 => ⟨st2, E2, hev.trans r1, r2, r3⟩) E' w' a' q1 q2 fun _ n hn => ((uag hs.drew q1 q2 q3.1) n hn).1) a hs.drew
 rw [h4] at key
 refine i0 (Q := kd fun a' w' => p7 E w Q .normal a' w') ?_ (udc hm h0 (yo _ _ _ _ key))
 intro e a' w' hq
 cases e with
 | normal => exact hq
 | _ => exact hq.elim
end
/-- Four objects that are changed. -/
theorem ueo {g H : Nat → Option GObj} {a b c d : Nat} {oa ob oc od : GObj} (ha : H a = some oa) (hb : H b = some ob) (hc : H c = some oc) (hd : H d = some od) (h : ∀ n o, n ≠ a → n ≠ b → n ≠ c → n ≠ d → g n = some o → H n = some o) :
  ∀ n o, ai (ai (ai (ai g a oa) b ob) c oc) d od n = some o → H n = some o := by
 intro n o hn
 by_cases e1 : n = d
 ·subst e1; rw [kx] at hn; rw [hd]; exact hn
 ·rw [ct e1] at hn
  by_cases e2 : n = c
  ·subst e2; rw [kx] at hn; rw [hc]; exact hn
  ·rw [ct e2] at hn
   by_cases e3 : n = b
   ·subst e3; rw [kx] at hn; rw [hb]; exact hn
   ·rw [ct e3] at hn
    by_cases e4 : n = a
    ·subst e4; rw [kx] at hn; rw [ha]; exact hn
    ·rw [ct e4] at hn
     exact h n o e4 e3 e2 e1 hn
end Go.AB
namespace Go.AB
open Go Go.RowKit
section
variable {P : Program} {ol : List Oper} {K : St → Prop} {D : List Nat} {late : Nat → Bool}
theorem uux (I : List Bool → St → Prop) (stop : List Bool → Bool) (hf : xz ol = true) (hl : ∀ l st, I l st → l.length = ol.length) (hall : ∀ l st, I l st → (∀ i, i < ol.length → l[i]? = some true) → stop l = true)
  (hs : ∀ l st i o, I l st → stop l = false → ol[i]? = some o → l[i]? = some false → (∀ j ∈ o5 o, l[j]? = some true) → fl ol.toArray st o = some true ∧ EStep P o st fun st' => pf D st st' ∧ I (l.set i true) st')
  (he : ∀ l st, I l st → stop l = true → me P ol K D late false (py l) l st) : ∀ (fuel : Nat) (l : List Bool) (st : St), I l st → py l = fuel → me P ol K D late false fuel l st := by
 intro fuel
 induction fuel with
 | zero =>
  intro l st hI h0
  have hz : ∀ i, i < ol.length → l[i]? = some true := fun i hi => by
   have e := List.getElem?_eq_getElem (l := l) (i := i) (by rw [hl l st hI]; exact hi)
   cases hb : l[i]'(by rw [hl l st hI]; exact hi) with
   | true => rw [e, hb]
   | false => exact absurd (by rw [e, hb]) (ugs h0 i)
  have := he l st hI (hall l st hI hz)
  rwa [h0] at this
 | succ fuel ih =>
  intro l st hI h0
  cases hst : stop l with
  | true =>
   have := he l st hI hst
   rwa [h0] at this
  | false =>
   cases h : Region.ready .any ol.toArray l.toArray with
   | nil => rw [hall l st hI (ub2 hf (hl l st hI) h)] at hst; cases hst
   | cons i is =>
    refine qj (i :: is) (by rw [h]; exact beq_self_eq_true _) (by simp) ?_
    have key : ∀ js : List Nat, (∀ j ∈ js, j ∈ Region.ready .any ol.toArray l.toArray) → vx P ol K D late false fuel l st js := by
     intro js
     induction js with
     | nil => intro _; trivial
     | cons j js ihj =>
      intro hjs
      refine ⟨?_, ihj fun k hk => hjs k (List.mem_cons_of_mem _ hk)⟩
      obtain ⟨o, ho, h2, h3⟩ := ub3 (hjs j (List.mem_cons_self ..)) (hl l st hI)
      have hn : py (l.set j true) = fuel := by have := zu h2; omega
      obtain ⟨hg, hE⟩ := hs l st j o hI hst ho h2 h3
      exact ⟨o, ho, hg, .inl ⟨rfl, hE.mono fun st' h' => ⟨h'.1, ih _ _ h'.2 hn⟩⟩⟩
    exact key (i :: is) fun j hj => by rw [h]; exact hj
/-- A state whose slots stand in another order. -/
theorem uuw {b : Bool} {fuel : Nat} {listed : List Bool} {st st' : St} (hn : st.n = st'.n) (hd : st.df = st'.df) (hA : ∀ i, bz st.l st.r i = bz st'.l st'.r i) (hG : st.G = st'.G) (hx : st.nx = st'.nx) (h : me P ol K D late b fuel listed st') : me P ol K D late b fuel listed st := by
 intro E0 w0 Q hQ E1 w1 a hev hs hb
 refine h E0 w0 Q hQ E1 w1 a hev ⟨hd ▸ hs.d, hn ▸ hs.sz, fun i v hv => ?_, ?_⟩ hb
 ·have := hs.t i v hv
  rwa [hA] at this
 ·have := hs.g
  rwa [hG, hx] at this
end
theorem ul {st st' : St} {n : Nat} {o : GObj} (h1 : st.G n = some o) (h2 : st'.G n = some o) : pf [n] st st' := ue7 h1 h2 rfl ue6
/-- whether an operation waits for another one -/
def sr (ol : List Oper) (i j : Nat) : Bool := ((ol[i]?).map fun o => (o5 o).contains j).getD false
theorem vn {ol : List Oper} {i j : Nat} {o : Oper} (h : sr ol i j = true) (ho : ol[i]? = some o) : j ∈ o5 o := by
 unfold sr at h
 rw [ho] at h
 simpa using h
/-- the slots, when so much came up: builds and appends of three lists -/
def adS (A0 : Nat → C) (c8 c9 c15 c16 c22 c23 : C) (b8 b9 b15 b16 b22 b23 : Bool) (i : Nat) : C :=
 bif b8 && Nat.beq 109 i then c8 else bif b9 && Nat.beq 110 i then c9 else bif b15 && Nat.beq 116 i then c15 else bif b16 && Nat.beq 117 i then c16 else bif b22 && Nat.beq 123 i then c22 else bif b23 && Nat.beq 124 i then c23 else A0 i
def adG (G0 G1 G2 G3 : Nat → Option GObj) (b9 b16 b23 : Bool) : Nat → Option GObj := bif b23 then G3 else bif b16 then G2 else bif b9 then G1 else G0
structure AdI (A0 : Nat → C) (c8 c9 c15 c16 c22 c23 : C) (G0 G1 G2 G3 : Nat → Option GObj) (nn df nx : Nat) (b8 b9 b15 b16 b22 b23 : Bool) (st : St) : Prop where
 n : st.n = nn
 df : st.df = df
 nx : st.nx = nx
 A : ∀ i, bz st.l st.r i = adS A0 c8 c9 c15 c16 c22 c23 b8 b9 b15 b16 b22 b23 i
 G : st.G = adG G0 G1 G2 G3 b9 b16 b23
 e9 : b9 = true → b8 = true
 e16 : b16 = true → b15 = true ∧ b9 = true
 e23 : b23 = true → b22 = true ∧ b16 = true
theorem l8 {a b i : Nat} (h : Nat.beq a i = true) (hab : Nat.beq a b = false) : Nat.beq b i = false := by
 have := Nat.eq_of_beq_eq_true h
 subst this
 cases e : Nat.beq b a
 ·rfl
 ·have := Nat.eq_of_beq_eq_true e
  subst this
  rw [Nat.beq_refl] at hab; cases hab
end Go.AB
namespace Go.AB
open Go Go.RowKit
section
variable {A0 : Nat → C} {c8 c9 c15 c16 c22 c23 : C} {G0 G1 G2 G3 : Nat → Option GObj} {nn df nx : Nat} {b8 b9 b15 b16 b22 b23 : Bool} {st : St}
theorem AdI.cong {x : List (Nat × C)} {g g' : Nat → Option GObj} (e : g = g') (h : AdI A0 c8 c9 c15 c16 c22 c23 G0 G1 G2 G3 nn df nx b8 b9 b15 b16 b22 b23 { st with r := x, G := g' }) : AdI A0 c8 c9 c15 c16 c22 c23 G0 G1 G2 G3 nn df nx b8 b9 b15 b16 b22 b23 { st with r := x, G := g } := by
 subst e; exact h
theorem AdI.step8 (h : AdI A0 c8 c9 c15 c16 c22 c23 G0 G1 G2 G3 nn df nx false b9 b15 b16 b22 b23 st) (k9 : b9 = false) (k16 : b16 = false) (k23 : b23 = false) : AdI A0 c8 c9 c15 c16 c22 c23 G0 G1 G2 G3 nn df nx true b9 b15 b16 b22 b23 { st with r := (109, c8) :: st.r } := by
 subst k9
 subst k16
 subst k23
 exact {
  n := h.n
  df := h.df
  nx := h.nx
  A := fun i => by
   show (bif Nat.beq 109 i then _ else bz st.l st.r i) = _
   rw [h.A i]
   cases e : Nat.beq 109 i
   ·simp only [adS, e, Bool.and_false, Bool.false_and, cond_false]
   rw [← Nat.eq_of_beq_eq_true e]
   cases b15 <;> cases b22 <;> rfl
  G := h.G
  e9 := fun _ => rfl
  e16 := fun e => nomatch e
  e23 := fun e => nomatch e }
theorem AdI.step9 (h : AdI A0 c8 c9 c15 c16 c22 c23 G0 G1 G2 G3 nn df nx true false b15 b16 b22 b23 st) (k16 : b16 = false) (k23 : b23 = false) : AdI A0 c8 c9 c15 c16 c22 c23 G0 G1 G2 G3 nn df nx true true b15 b16 b22 b23 { st with r := (110, c9) :: st.r, G := G1 } := by
 subst k16
 subst k23
 exact {
  n := h.n
  df := h.df
  nx := h.nx
  A := fun i => by
   show (bif Nat.beq 110 i then _ else bz st.l st.r i) = _
   rw [h.A i]
   cases e : Nat.beq 110 i
   ·simp only [adS, e, Bool.and_false, Bool.false_and, cond_false]
   rw [← Nat.eq_of_beq_eq_true e]
   cases b15 <;> cases b22 <;> rfl
  G := rfl
  e9 := fun _ => rfl
  e16 := fun e => nomatch e
  e23 := fun e => nomatch e }
theorem AdI.step15 (h : AdI A0 c8 c9 c15 c16 c22 c23 G0 G1 G2 G3 nn df nx b8 b9 false b16 b22 b23 st) (k16 : b16 = false) (k23 : b23 = false) : AdI A0 c8 c9 c15 c16 c22 c23 G0 G1 G2 G3 nn df nx b8 b9 true b16 b22 b23 { st with r := (116, c15) :: st.r } := by
 subst k16
 subst k23
 exact {
  n := h.n
  df := h.df
  nx := h.nx
  A := fun i => by
   show (bif Nat.beq 116 i then _ else bz st.l st.r i) = _
   rw [h.A i]
   cases e : Nat.beq 116 i
   ·simp only [adS, e, Bool.and_false, Bool.false_and, cond_false]
   rw [← Nat.eq_of_beq_eq_true e]
   cases b8 <;> cases b9 <;> cases b22 <;> rfl
  G := h.G
  e9 := h.e9
  e16 := fun e => nomatch e
  e23 := fun e => nomatch e }
theorem AdI.step16 (h : AdI A0 c8 c9 c15 c16 c22 c23 G0 G1 G2 G3 nn df nx true true true false b22 b23 st) (k23 : b23 = false) : AdI A0 c8 c9 c15 c16 c22 c23 G0 G1 G2 G3 nn df nx true true true true b22 b23 { st with r := (117, c16) :: st.r, G := G2 } := by
 subst k23
 exact {
  n := h.n
  df := h.df
  nx := h.nx
  A := fun i => by
   show (bif Nat.beq 117 i then _ else bz st.l st.r i) = _
   rw [h.A i]
   cases e : Nat.beq 117 i
   ·simp only [adS, e, Bool.and_false, Bool.false_and, cond_false]
   rw [← Nat.eq_of_beq_eq_true e]
   cases b22 <;> rfl
  G := rfl
  e9 := fun _ => rfl
  e16 := fun _ => ⟨rfl, rfl⟩
  e23 := fun e => nomatch e }
theorem AdI.step22 (h : AdI A0 c8 c9 c15 c16 c22 c23 G0 G1 G2 G3 nn df nx b8 b9 b15 b16 false b23 st) (k23 : b23 = false) : AdI A0 c8 c9 c15 c16 c22 c23 G0 G1 G2 G3 nn df nx b8 b9 b15 b16 true b23 { st with r := (123, c22) :: st.r } := by
 subst k23
 exact {
  n := h.n
  df := h.df
  nx := h.nx
  A := fun i => by
   show (bif Nat.beq 123 i then _ else bz st.l st.r i) = _
   rw [h.A i]
   cases e : Nat.beq 123 i
   ·simp only [adS, e, Bool.and_false, Bool.false_and, cond_false]
   rw [← Nat.eq_of_beq_eq_true e]
   cases b8 <;> cases b9 <;> cases b15 <;> cases b16 <;> rfl
  G := h.G
  e9 := h.e9
  e16 := h.e16
  e23 := fun e => nomatch e }
theorem AdI.step23 (h : AdI A0 c8 c9 c15 c16 c22 c23 G0 G1 G2 G3 nn df nx true true true true true false st)  : AdI A0 c8 c9 c15 c16 c22 c23 G0 G1 G2 G3 nn df nx true true true true true true { st with r := (124, c23) :: st.r, G := G3 } := by
 exact {
  n := h.n
  df := h.df
  nx := h.nx
  A := fun i => by
   show (bif Nat.beq 124 i then _ else bz st.l st.r i) = _
   rw [h.A i]
   cases e : Nat.beq 124 i
   ·simp only [adS, e, Bool.and_false, Bool.false_and, cond_false]
   rw [← Nat.eq_of_beq_eq_true e]
   rfl
  G := rfl
  e9 := fun _ => rfl
  e16 := fun _ => ⟨rfl, rfl⟩
  e23 := fun _ => ⟨rfl, rfl⟩ }
end
/-- the flags, as the list of what came up -/
def adL (b8 b9 b15 b16 b22 b23 : Bool) : List Bool := [true, true, true, true, true, true, true, true, b8, b9, true, true, true, true, true, b15, b16, true, true, true, true, true, b22, b23, false, false, false, false, false, false, false, false, false]
theorem zt {a b : Bool} (h : a = true → b = true) (hb : b = false) : a = false := by
 cases a
 ·rfl
 rw [h rfl] at hb; cases hb
theorem vf {ops : Array Oper} {st : St} {o : Oper} (h1 : ve o.op = false) (h2 : o.guard = none) : fl ops st o = some true := by
 unfold fl xx
 rw [h1, h2]; rfl
theorem rp {st : St} {i n : Nat} {c : C} (hn : st.n = n) (hi : Nat.blt i n = true) (h : bz st.l st.r i = c) : st.at i = c := by
 unfold St.at
 rw [hn, hi]; exact h
end Go.AB
namespace Go.Proofs.YtgffhbbcpgdjjaaGreatDoor
set_option maxRecDepth 10000
open Go Go.RowKit Go.AB
open Go.AB.Enc (cells)
open Go.PB (PlaceD)
set_option maxHeartbeats 1000000 in
theorem ukp (ws : List Int) (al bo : List (List PlaceD)) (w : Int) (fo bt : List PlaceD) (nB a1 a2 a3 : Nat) {ob : GObj} {ol : List Oper} {K : St → Prop} {late : Nat → Bool} (st0 : St) (hlen : ol.length = 33) (hf : xz ol = true) (hgd : (ol.all fun o => o.guard.isNone) = true)
  (hdp : (sr ol 9 8 && sr ol 16 15 && sr ol 16 9 && sr ol 23 22 && sr ol 23 16 && (List.range 9).all fun i => sr ol (24 + i) 23) = true)
  (q8 : (ol[8]?).map (fun o => (o.op, o.dst)) = some (.buildSlice 33 1 #[(0, .tmp 108)], some 109)) (q9 : (ol[9]?).map (fun o => (o.op, o.dst)) = some (.call { callee := .builtin .append, args := #[.tmp 107, .tmp 109], argTypes := #[33, 33] }, some 110))
  (q15 : (ol[15]?).map (fun o => (o.op, o.dst)) = some (.buildSlice 111 1 #[(0, .tmp 115)], some 116)) (q16 : (ol[16]?).map (fun o => (o.op, o.dst)) = some (.call { callee := .builtin .append, args := #[.tmp 114, .tmp 116], argTypes := #[111, 111] }, some 117))
  (q22 : (ol[22]?).map (fun o => (o.op, o.dst)) = some (.buildSlice 111 1 #[(0, .tmp 122)], some 123)) (q23 : (ol[23]?).map (fun o => (o.op, o.dst)) = some (.call { callee := .builtin .append, args := #[.tmp 121, .tmp 123], argTypes := #[111, 111] }, some 124))
  (hn : st0.n = 131) (h107 : bz st0.l st0.r 107 = .list (ws.map cells) (.tip a1)) (h108 : bz st0.l st0.r 108 = .v (.int .i64 w)) (h114 : bz st0.l st0.r 114 = .list (al.map cells) (.tip a2)) (h115 : bz st0.l st0.r 115 = lst fo) (h121 : bz st0.l st0.r 121 = .list (bo.map cells) (.tip a3)) (h122 : bz st0.l st0.r 122 = lst bt)
  (hB : st0.G nB = some ob) (hG1 : st0.G a1 = some (.tip ws.length 3 1)) (hG2 : st0.G a2 = some (.tip al.length 36 1)) (hG3 : st0.G a3 = some (.tip bo.length 36 1))
  (d1 : nB ≠ a1) (d2 : nB ≠ a2) (d3 : nB ≠ a3) (d4 : a1 ≠ a2) (d5 : a1 ≠ a3) (d6 : a2 ≠ a3) (lw : ws.length ≤ 100) (la : al.length ≤ 100) (lb : bo.length ≤ 100)
  (hK : me Tryz.prog ol K [nB] late false 9 (adL true true true true true true) { st0 with r := (124, .list ((bo ++ [bt]).map cells) (.tip a3)) :: (123, .list [[lst bt]] .none) :: (117, .list ((al ++ [fo]).map cells) (.tip a2)) :: (116, .list [[lst fo]] .none) :: (110, .list ((ws ++ [w]).map cells) (.tip a1)) :: (109, .list [[.v (.int .i64 w)]] .none) :: st0.r, G := ai (ai (ai st0.G a1 (.tip (ws ++ [w]).length 3 1)) a2 (.tip (al ++ [fo]).length 36 1)) a3 (.tip (bo ++ [bt]).length 36 1) }) :
  me Tryz.prog ol K [nB] late false 15 (adL false false false false false false) st0 := by
 have hop : ∀ {i : Nat} {o : Oper} {q : Op} {d : Option Tmp}, ol[i]? = some o → (ol[i]?).map (fun o => (o.op, o.dst)) = some (q, d) → o.op = q ∧ o.dst = d := fun {i o q d} h k => by
  rw [h] at k
  simp only [Option.map_some, Option.some.injEq, Prod.mk.injEq] at k
  exact k
 simp only [Bool.and_eq_true, List.all_eq_true, List.mem_range] at hdp
 obtain ⟨⟨⟨⟨⟨p1, p2⟩, p3⟩, p4⟩, p5⟩, p6⟩ := hdp
 obtain ⟨G1, hG1'⟩ : ∃ G1, ai st0.G a1 (.tip (ws ++ [w]).length 3 1) = G1 := ⟨_, rfl⟩
 obtain ⟨G2, hG2'⟩ : ∃ G2, ai G1 a2 (.tip (al ++ [fo]).length 36 1) = G2 := ⟨_, rfl⟩
 obtain ⟨G3, hG3'⟩ : ∃ G3, ai G2 a3 (.tip (bo ++ [bt]).length 36 1) = G3 := ⟨_, rfl⟩
 rw [hG1', hG2', hG3'] at hK
 have k1 : G1 a2 = some (.tip al.length 36 1) := by rw [← hG1', ct d4.symm]; exact hG2
 have k2 : G2 a3 = some (.tip bo.length 36 1) := by rw [← hG2', ct d6.symm, ← hG1', ct d5.symm]; exact hG3
 have m1 : G1 nB = some ob := by rw [← hG1', ct d1]; exact hB
 have m2 : G2 nB = some ob := by rw [← hG2', ct d2]; exact m1
 have m3 : G3 nB = some ob := by rw [← hG3', ct d3]; exact m2
 have mB : ∀ b9 b16 b23, adG st0.G G1 G2 G3 b9 b16 b23 nB = some ob := fun b9 b16 b23 => by
  cases b23 <;> cases b16 <;> cases b9 <;> assumption
 refine uux (fun l st => ∃ b8 b9 b15 b16 b22 b23, l = adL b8 b9 b15 b16 b22 b23 ∧ AdI (bz st0.l st0.r) (.list [[.v (.int .i64 w)]] .none) (.list ((ws ++ [w]).map cells) (.tip a1)) (.list [[lst fo]] .none) (.list ((al ++ [fo]).map cells) (.tip a2)) (.list [[lst bt]] .none) (.list ((bo ++ [bt]).map cells) (.tip a3)) st0.G G1 G2 G3 131 st0.df st0.nx b8 b9 b15 b16 b22 b23 st) (fun l => (l[23]?).getD false) hf ?_ ?_ ?_ ?_ 15 _ st0 ?_ rfl
 ·rintro l st ⟨b8, b9, b15, b16, b22, b23, rfl, h⟩
  rw [hlen]; rfl
 ·rintro l st ⟨b8, b9, b15, b16, b22, b23, rfl, h⟩ hall
  rw [hlen] at hall
  have := hall 23 (by omega)
  show ((adL b8 b9 b15 b16 b22 b23)[23]?).getD false = true
  rw [this]; rfl
 ·rintro l st i o ⟨b8, b9, b15, b16, b22, b23, rfl, h⟩ hst hi hoff hdeps
  have hb23 : b23 = false := hst
  subst hb23
  have hlt := (List.getElem?_eq_some_iff.1 hi).1
  rw [hlen] at hlt
  have hgo : o.guard = none := by
   have := List.all_eq_true.1 hgd o (List.mem_of_getElem? hi)
   simpa using this
  have hsB := h.G ▸ mB b9 b16 false
  have hcase : (i = 8 ∨ i = 9 ∨ i = 15 ∨ i = 16 ∨ i = 22 ∨ i = 23) ∨ 24 ≤ i ∨ i = 0 ∨ i = 1 ∨ i = 2 ∨ i = 3 ∨ i = 4 ∨ i = 5 ∨ i = 6 ∨ i = 7 ∨ i = 10 ∨ i = 11 ∨ i = 12 ∨ i = 13 ∨ i = 14 ∨ i = 17 ∨ i = 18 ∨ i = 19 ∨ i = 20 ∨ i = 21 := by omega
  rcases hcase with (rfl | rfl | rfl | rfl | rfl | rfl) | h24 | rfl | rfl | rfl | rfl | rfl | rfl | rfl | rfl | rfl | rfl | rfl | rfl | rfl | rfl | rfl | rfl | rfl | rfl
  ·obtain ⟨e1, e2⟩ := hop hi q8
   obtain rfl : b8 = false := Option.some.inj hoff
   refine ⟨vf (by rw [e1]; rfl) hgo, ef (rows := [[.v (.int .i64 w)]]) (parts := [(0, .tmp 108)]) e1 rfl ?_ (by decide) (by decide) (by simp) (by decide) ?_⟩
   ·show qw [(0, st.at 108)] = _
    rw [rp (c := .v (.int .i64 w)) h.n rfl (by rw [h.A]; cases b9 <;> cases b15 <;> cases b16 <;> cases b22 <;> exact h108)]; rfl
   rw [e2]
   exact ⟨ul hsB hsB, true, b9, b15, b16, b22, false, rfl, h.step8 (zt h.e9 rfl) (zt (fun e => h.e9 (h.e16 e).2) rfl) rfl⟩
  ·obtain ⟨e1, e2⟩ := hop hi q9
   obtain rfl : b9 = false := Option.some.inj hoff
   obtain rfl : b8 = true := Option.some.inj (hdeps 8 (vn p1 hi))
   have hk16 : b16 = false := zt (fun e => (h.e16 e).2) rfl
   subst hk16
   have hG := h.G
   refine ⟨vf (by rw [e1]; rfl) hgo, jz [w] e1 (rp h.n rfl (by rw [h.A]; cases b15 <;> cases b22 <;> exact h107)) (by rw [hG]; exact hG1) rfl (rp (c := .list [[.v (.int .i64 w)]] .none) h.n rfl (by rw [h.A]; rfl)) rfl (by simp only [List.length_cons, List.length_nil]; omega) ?_ (by simp only [List.length_cons, List.length_nil]; omega)⟩
   rw [e2]
   have e3 : ai st.G a1 (.tip (ws ++ [w]).length 3 1) = G1 := by rw [hG]; exact hG1'
   refine ⟨ul hsB (by show ai st.G a1 _ nB = _; rw [ct d1]; exact hsB), true, true, b15, false, b22, false, rfl, ?_⟩
   exact (h.step9 rfl rfl).cong e3
  ·obtain ⟨e1, e2⟩ := hop hi q15
   obtain rfl : b15 = false := Option.some.inj hoff
   refine ⟨vf (by rw [e1]; rfl) hgo, ef (rows := [[lst fo]]) (parts := [(0, .tmp 115)]) e1 rfl ?_ (by decide) (by decide) (by simp) (by decide) ?_⟩
   ·show qw [(0, st.at 115)] = _
    rw [rp (c := lst fo) h.n rfl (by rw [h.A]; cases b8 <;> cases b9 <;> cases b16 <;> cases b22 <;> exact h115)]; rfl
   rw [e2]
   exact ⟨ul hsB hsB, b8, b9, true, b16, b22, false, rfl, h.step15 (zt (fun e => (h.e16 e).1) rfl) rfl⟩
  ·obtain ⟨e1, e2⟩ := hop hi q16
   obtain rfl : b16 = false := Option.some.inj hoff
   obtain rfl : b15 = true := Option.some.inj (hdeps 15 (vn p2 hi))
   obtain rfl : b9 = true := Option.some.inj (hdeps 9 (vn p3 hi))
   obtain rfl : b8 = true := h.e9 rfl
   have hG := h.G
   refine ⟨vf (by rw [e1]; rfl) hgo, jz [fo] e1 (rp h.n rfl (by rw [h.A]; cases b22 <;> exact h114)) (by rw [hG]; exact k1) rfl (rp (c := .list [[lst fo]] .none) h.n rfl (by rw [h.A]; rfl)) rfl (by simp only [List.length_cons, List.length_nil]; omega) ?_ (by simp only [List.length_cons, List.length_nil]; omega)⟩
   rw [e2]
   have e3 : ai st.G a2 (.tip (al ++ [fo]).length 36 1) = G2 := by rw [hG]; exact hG2'
   refine ⟨ul hsB (by show ai st.G a2 _ nB = _; rw [ct d2]; exact hsB), true, true, true, true, b22, false, rfl, ?_⟩
   exact (h.step16 rfl).cong e3
  ·obtain ⟨e1, e2⟩ := hop hi q22
   obtain rfl : b22 = false := Option.some.inj hoff
   refine ⟨vf (by rw [e1]; rfl) hgo, ef (rows := [[lst bt]]) (parts := [(0, .tmp 122)]) e1 rfl ?_ (by decide) (by decide) (by simp) (by decide) ?_⟩
   ·show qw [(0, st.at 122)] = _
    rw [rp (c := lst bt) h.n rfl (by rw [h.A]; cases b8 <;> cases b9 <;> cases b15 <;> cases b16 <;> exact h122)]; rfl
   rw [e2]
   exact ⟨ul hsB hsB, b8, b9, b15, b16, true, false, rfl, h.step22 rfl⟩
  ·obtain ⟨e1, e2⟩ := hop hi q23
   obtain rfl : b22 = true := Option.some.inj (hdeps 22 (vn p4 hi))
   obtain rfl : b16 = true := Option.some.inj (hdeps 16 (vn p5 hi))
   obtain rfl : b15 = true := (h.e16 rfl).1
   obtain rfl : b9 = true := (h.e16 rfl).2
   obtain rfl : b8 = true := h.e9 rfl
   have hG := h.G
   refine ⟨vf (by rw [e1]; rfl) hgo, jz [bt] e1 (rp h.n rfl (by rw [h.A]; exact h121)) (by rw [hG]; exact k2) rfl (rp (c := .list [[lst bt]] .none) h.n rfl (by rw [h.A]; rfl)) rfl (by simp only [List.length_cons, List.length_nil]; omega) ?_ (by simp only [List.length_cons, List.length_nil]; omega)⟩
   rw [e2]
   have e3 : ai st.G a3 (.tip (bo ++ [bt]).length 36 1) = G3 := by rw [hG]; exact hG3'
   refine ⟨ul hsB (by show ai st.G a3 _ nB = _; rw [ct d3]; exact hsB), true, true, true, true, true, true, rfl, ?_⟩
   exact (h.step23).cong e3
  ·have hm := hdeps 23 (vn (i := i) (by have := p6 (i - 24) (by omega); rwa [show 24 + (i - 24) = i by omega] at this) hi)
   cases hm
  all_goals (cases hoff)
 ·rintro l st ⟨b8, b9, b15, b16, b22, b23, rfl, h⟩ hst
  obtain rfl : b23 = true := hst
  obtain ⟨rfl, rfl⟩ := h.e23 rfl
  obtain ⟨rfl, rfl⟩ := h.e16 rfl
  obtain rfl := h.e9 rfl
  refine uuw ?_ ?_ (fun i => ?_) ?_ ?_ hK
  ·exact h.n.trans hn.symm
  ·exact h.df
  rotate_left
  ·exact h.G
  ·exact h.nx
  rw [h.A i]
  unfold adS
  show (bif Nat.beq 109 i then _ else bif Nat.beq 110 i then _ else bif Nat.beq 116 i then _ else bif Nat.beq 117 i then _ else bif Nat.beq 123 i then _ else bif Nat.beq 124 i then _ else bz st0.l st0.r i) = (bif Nat.beq 124 i then _ else bif Nat.beq 123 i then _ else bif Nat.beq 117 i then _ else bif Nat.beq 116 i then _ else bif Nat.beq 110 i then _ else bif Nat.beq 109 i then _ else bz st0.l st0.r i)
  cases e1 : Nat.beq 109 i
  ·cases e2 : Nat.beq 110 i
   ·cases e3 : Nat.beq 116 i
    ·cases e4 : Nat.beq 117 i
     ·cases e5 : Nat.beq 123 i
      ·cases e6 : Nat.beq 124 i <;> rfl
      rw [l8 e5 (b := 124) rfl]; rfl
     rw [l8 e4 (b := 124) rfl, l8 e4 (b := 123) rfl]; rfl
    rw [l8 e3 (b := 124) rfl, l8 e3 (b := 123) rfl, l8 e3 (b := 117) rfl]; rfl
   rw [l8 e2 (b := 124) rfl, l8 e2 (b := 123) rfl, l8 e2 (b := 117) rfl, l8 e2 (b := 116) rfl]; rfl
  rw [l8 e1 (b := 124) rfl, l8 e1 (b := 123) rfl, l8 e1 (b := 117) rfl, l8 e1 (b := 116) rfl, l8 e1 (b := 110) rfl]; rfl
 exact ⟨false, false, false, false, false, false, rfl, { n := hn, df := rfl, nx := rfl, A := fun _ => rfl, G := rfl, e9 := (fun e => nomatch e), e16 := (fun e => nomatch e), e23 := (fun e => nomatch e) }⟩
end Go.Proofs.YtgffhbbcpgdjjaaGreatDoor
namespace Go.AB
open Go Go.RowKit
open Go.AB.Enc (cells)
section
variable {P : Program} {o : Oper} {st : St} {K : St → Prop}
/-- append to a slice without room: a copy, owned. -/
theorem ujj {α : Type} [Enc α] {t e : TypeId} {bytes : Nat} [AppT P t e (Enc.n α) bytes] {s x : Operand} {tok tk : Tok} {rows : List (List C)} (ys : List α) (ho : o.op = .call { callee := .builtin .append, args := #[s, x], argTypes := #[t, t] }) (hs : evC st s = .list [] tok) (htok : tok = .zero ∨ tok = .nil) (hx : evC st x = .list rows tk) (hy : rows = ys.map cells) (hne : ys ≠ []) (hn : 1 ≤ Enc.n α) (hb : ys.length * bytes ≤ 140737488355328) (hm : ys.length ≤ 9223372036854775807)
  (h : K (St.put { st with G := ai st.G st.nx (.arr 0 0 e (Enc.n α) ys.length (az ys)), nx := st.nx + 1 } o.dst (.own st.nx 0 ys.length))) : EStep P o st K :=
 lp fun E w a hsim => by
  subst hy
  obtain ⟨ht, i, z, hie, hz, h1, h2, h3⟩ := AppT.spec (P := P) (t := t) (e := e) (sz := Enc.n α) (bytes := bytes)
  obtain ⟨sa, cap, _, _, e1, _, _, _, _, _, _, _, z1, z2, _⟩ := (hs ▸ hsim.ev s).list_inv
  have hcap : cap = 0 := by
   rcases htok with h | h
   ·exact z2 h
   ·exact (z1 h).2
  subst hcap
  have hrl : (ys.map (cells (α := α))).length = ys.length := List.length_map _
  obtain ⟨ao, c, news, e2, hl, hnews, hr, hone, h1c⟩ := ua2 (hx ▸ hsim.ev x) (na ys)
  rw [hrl] at e2 hl hnews
  have hy0 : ys.length ≠ 0 := fun e => hne (List.eq_nil_of_length_eq_zero e)
  obtain ⟨ad, rfl, hcells⟩ := hnews.resolve_left hy0
  have hl2 : news.length = ys.length * i.size := by rw [hl, h1]
  have key : ∃ nc, (Builtin.append_ #[t, t] o.type #[.slice sa 0 0, .slice (some ad) ys.length c]).run P w = .ok (.slice (some ⟨w.heap.size, 0, none⟩) ys.length nc) (w.drew.alloc (.cells (news.toArray ++ Builtin.zeroCells z.cells (nc - ys.length)) e)) ∧ ys.length ≤ nc ∧ nc ≤ maxLen := by
   refine ⟨grownCap w (0 + ys.length) 0 e, ?_, ?_, ?_⟩
   ·cases sa with
    | none =>
     have := run_append_nil (P := P) w t o.type e i z ht hie hz ad ys.length c news hl2 hcells (by omega) (by omega) (by rw [h2]; omega)
     simpa using this
    | some a0 =>
     have := run_append_grow (P := P) w t o.type e i z ht hie hz a0 0 0 [] (by simp) (by simp) ad ys.length c news hl2 hcells (by omega) (by omega) (growslice_fits (by omega) (by rw [h2]; simpa using hb))
     simpa using this
   ·have := grownCap_ge w (0 + ys.length) 0 e; omega
   ·exact grownCap_le_maxLen w (0 + ys.length) 0 e (by unfold maxLen; omega)
  obtain ⟨nc, hrun, hnc, hnm⟩ := key
  obtain ⟨ob, hob⟩ : ∃ ob, ob = Obj.cells (news.toArray ++ Builtin.zeroCells z.cells (nc - ys.length)) e := ⟨_, rfl⟩
  rw [← hob] at hrun
  have hev := Ev.laid hsim.g (o := ob) 0 (.inr rfl)
  have hg := SimG.laid hsim.g (o := ob) 0 (.inr rfl)
  have hnew : (w.drew.alloc ob).heap[w.heap.size]? = some ob := tw w.drew ob
  have hsz : (w.drew.alloc ob).heap.size = w.heap.size + 1 := by simp
  have hold : ∀ n tt b, (E.lay w.heap.size 0).T n = some tt → blk tt.2.2 = some b → b < w.heap.size := fun n tt b h5 h6 => (hsim.g.tb n _ _ _ b h5 h6).2
  have hnx := hsim.g.nx
  have hfr : ∀ b o', blk (.slice (some ⟨w.heap.size, 0, none⟩) ys.length nc) = some b → w.heap[b]? = some o' → False := fun b o' hbk ho' => by
   simp only [blk, Option.some.injEq] at hbk
   subst hbk
   have := (Array.getElem?_eq_some_iff.1 ho').1
   omega
  have hev2 := hev.thenName (.slice (some ⟨w.heap.size, 0, none⟩) ys.length nc) hfr
  have hg2 := SimG.name hg (.slice (some ⟨w.heap.size, 0, none⟩) ys.length nc) (.arr 0 0 e (Enc.n α) ys.length (az ys)) (fun b hbk => by
   simp only [blk, Option.some.injEq] at hbk
   subst hbk
   exact ⟨hsim.g.base, by rw [hsz]; omega, fun n tt h5 h6 => absurd (hold n tt _ h5 h6) (by omega)⟩) (by
   refine ⟨.slice (some ⟨w.heap.size, 0, none⟩) ys.length nc, news, ?_, ⟨hl, .inr ⟨w.heap.size, nc, _, rfl, hsim.g.base, hnew.trans (by rw [hob]), hnc, hnm, ?_, ?_⟩⟩, fun c hc => ?_, hr.ev hev2, fun b hbk => ?_, hn⟩
   ·simp [Env.name, Env.lay, hnx]
   ·simp only [Array.size_append, List.size_toArray, size_zeroCells, hl]
    rw [h3, ← Nat.add_mul]
    congr 1
    omega
   ·simp only [Array.toList_append]
    rw [List.take_append_of_le_length (by simp [hl]), List.take_of_length_le (by simp [hl])]
   ·obtain ⟨r, hr1, hr2⟩ := List.mem_flatten.1 hc
    exact hone r hr1 c hr2
   ·simp only [blk, Option.some.injEq] at hbk
    subst hbk
    simp [Env.name, Env.lay])
  refine ⟨.slice (some ⟨w.heap.size, 0, none⟩) ys.length nc, w.drew.alloc ob, _, _, _, .own st.nx 0 ys.length, ?_, hev2, ?_, hg2, h⟩
  ·simp only [execOp, ho, resolve, invoke, builtin, Sem.run_bind, Sem.run_pure, Result.andThen_ok, List.map_toArray, List.map_cons, List.map_nil, e1, e2]
   simp only [List.length_nil]
   rw [hrun]; rfl
  ·refine R.own (by simp [Env.name, Env.lay]; omega) hnc hnm fun ver wv val htt => ?_
   simp only [Env.name, Env.lay, hnx, if_true, Option.some.injEq, Prod.mk.injEq] at htt
   obtain ⟨rfl, rfl, rfl⟩ := htt
   exact ⟨Nat.le_refl _, fun _ => ⟨_, Nat.le_refl _, rfl⟩⟩
end
/-- A function that gives nothing back ends. -/
theorem ui5 {P : Program} {st : St} {fn : Func} {G : Nat → Option GObj} {nx : Nat} {e : Exit} (hf : fn.results = #[]) (he : e = .normal ∨ e = .ret) (hn : nx ≤ st.nx) (hG : ∀ n o, G n = some o → st.G n = some o) : ql P fn (.tup []) G nx e st := by
 have : qx P fn st (.tup []) := fun E w a _ => ⟨_, results_none hf _ _ _, R.undef E w⟩
 rcases he with rfl | rfl
 ·exact ⟨this, hn, hG⟩
 ·exact ⟨this, hn, hG⟩
end Go.AB
namespace Go.AB
open Go Go.RowKit
open Go.Maps (Keyed)
section
variable {P : Program} {k t e : TypeId} {w : World} {r : Nat} {es : Array MapEntry} {clock : Nat}
end
section
variable {P : Program} {o : Oper} {st : St} {K : St → Prop} {α : Type} [KeyV α]
end
/-- Three numbers. -/
instance : KeyV Go.PB.PlaceD where
 kv x := .agg #[.int .i64 x.ch, .int .i64 x.ln, .int .i64 x.wd]
 kc x := .agg [.v (.int .i64 x.ch), .v (.int .i64 x.ln), .v (.int .i64 x.wd)]
 inv h := by
  obtain ⟨vs, rfl, h1, _⟩ := h.agg_inv
  match vs, h1 with
  | [a, b, c], h1 =>
   have e1 := (h1.2 0 _ _ rfl rfl).v_inv
   have e2 := (h1.2 1 _ _ rfl rfl).v_inv
   have e3 := (h1.2 2 _ _ rfl rfl).v_inv
   subst e1; subst e2; subst e3; rfl
  | [], h => exact absurd h.1 (by simp)
  | [_], h => exact absurd h.1 (by simp)
  | [_, _], h => exact absurd h.1 (by simp)
  | _ :: _ :: _ :: _ :: _, h => exact absurd h.1 (by simp)
 inj h := by
  rename_i x y
  obtain ⟨a, b, c⟩ := x
  obtain ⟨d, e, f⟩ := y
  simpa using h
 any {E w x v} h E' w' := by
  obtain ⟨vs, rfl, h1, _⟩ := h.agg_inv
  match vs, h1 with
  | [a, b, c], h1 =>
   have e1 := h1.2 0 _ _ rfl rfl
   have e2 := h1.2 1 _ _ rfl rfl
   have e3 := h1.2 2 _ _ rfl rfl
   cases e1 with | v e1 =>
   cases e2 with | v e2 =>
   cases e3 with | v e3 =>
   exact (Rs.cons (.v e1) (Rs.cons (.v e2) (Rs.cons (.v e3) Rs.nil))).agg (by intro c hc; simp only [List.mem_cons, List.not_mem_nil, or_false] at hc; rcases hc with rfl | rfl | rfl <;> rfl)
  | [], h => exact absurd h.1 (by simp)
  | [_], h => exact absurd h.1 (by simp)
  | [_, _], h => exact absurd h.1 (by simp)
  | _ :: _ :: _ :: _ :: _, h => exact absurd h.1 (by simp)
end Go.AB
namespace Go.AB
open Go Go.RowKit
open Go.PB (ay aj PlaceD bg bi bh)
def uic (P : Program) (k u : TypeId) : Bool := match P.underlying k with
 | some (.struct fs) => (match fs.toList with
  | [a, b, c] => a.type == u && b.type == u && c.type == u && a.offset == 0 && b.offset == 1 && c.offset == 2 && fs.all (·.name != "_")
  | _ => false)
 | _ => false
theorem key3 {P : Program} {k u : TypeId} (h : uic P k u = true) (hu : P.underlying u = some (.int .i64)) (h3 : P.cellsOf k = 3) (h1 : P.cellsOf u = 1) (hk : P.keyType k = true) (hm : ∃ m, P.types.size = m + 3) {x y z : Int} (hx : (Lit.int .i64 x).wf = true) (hy : (Lit.int .i64 y).wf = true) (hz : (Lit.int .i64 z).wf = true) : ∃ l, keyOf P k (.agg #[.int .i64 x, .int .i64 y, .int .i64 z]) = some l := by
 obtain ⟨m, hm⟩ := hm
 unfold uic at h
 split at h
 ·rename_i fs hfs
  split at h
  ·rename_i a b c habc
   simp only [Bool.and_eq_true, beq_iff_eq] at h
   obtain ⟨⟨⟨⟨⟨⟨e1, e2⟩, e3⟩, e4⟩, e5⟩, e6⟩, e7⟩ := h
   have hf : (Value.agg #[.int .i64 x, .int .i64 y, .int .i64 z]).formed P k = true := by simp [Value.formed, hfs, h3]
   refine ⟨.string (keyBytes [.int .i64 x, .int .i64 y, .int .i64 z]), ?_⟩
   unfold keyOf
   rw [hfs]
   simp only [hk, hf, Bool.and_self, if_true]
   have hl : P.keyLits (P.types.size + 1) k (Value.agg #[.int .i64 x, .int .i64 y, .int .i64 z]).cells.toList = some [.int .i64 x, .int .i64 y, .int .i64 z] := by
    rw [hm]
    unfold Program.keyLits
    simp only [hfs, h3, h1, e1, e2, e3, e4, e5, e6, e7, habc, Value.cells]
    unfold Program.keyLits
    simp [hu, h1, e1, e2, e3, e4, e5, e6, hx, hy, hz]
   rw [hl]
   rfl
  ·cases h
 ·cases h
end Go.AB
namespace Go.Proofs.YtgffhbbcpgdjjaaGreatDoor
set_option maxRecDepth 10000
open Go Go.RowKit Go.AB
open Go.PB (ay aj PlaceD bg bi bh)
theorem uo9 : Go.Maps.Keyed Tryz.prog 41 := Go.Maps.Keyed.of_law (deep_law_laid uct (m := 2) (by omega) (of_decide_eq_true (by kernel_rfl)) (by kernel_rfl) (by kernel_rfl))
instance : KeyT Tryz.prog 41 PlaceD where
 keyed := uo9
 has {E w x v} h := by
  obtain ⟨vs, rfl, h1, _⟩ := R.agg_inv h
  match vs, h1 with
  | [a, b, c], h1 => exact key3 (u := 3) (by kernel_rfl) ubb (by kernel_rfl) (by kernel_rfl) (by kernel_rfl) uq2 (uaa (uaf (h1.2 0 _ _ rfl rfl))) (uaa (uaf (h1.2 1 _ _ rfl rfl))) (uaa (uaf (h1.2 2 _ _ rfl rfl)))
  | [], h => exact absurd h.1 (by simp)
  | [_], h => exact absurd h.1 (by simp)
  | [_, _], h => exact absurd h.1 (by simp)
  | _ :: _ :: _ :: _ :: _, h => exact absurd h.1 (by simp)
end Go.Proofs.YtgffhbbcpgdjjaaGreatDoor
namespace Go.AB
open Go Go.RowKit
open Go.AB.Enc (cells)
open Go.PB (ay aj PlaceD bg bi bh bn ak ah cr bq dr dt)
/-- who is found, as a map -/
def ip (f : PlaceD → Bool) : PlaceD → Option C := fun q => bif f q then some (.v (.bool true)) else none
theorem ugn (f : PlaceD → Bool) (q : PlaceD) : (ip f q).getD (rn (.bool false)) = .v (.bool (f q)) := by
 unfold ip
 cases f q <;> rfl
theorem up6 : ip (fun q => decide (q ∈ ([] : List PlaceD))) = fun _ => none := by funext q; simp [ip]
theorem up7 {F : List PlaceD} {k : Nat} {q : PlaceD} (h : F[k]? = some q) : lx (ip fun x => decide (x ∈ F.take k)) q (.v (.bool true)) = ip fun x => decide (x ∈ F.take (k + 1)) := by
 funext x
 unfold lx ip
 have hm : decide (x ∈ F.take (k + 1)) = (decide (x ∈ F.take k) || decide (x = q)) := by
  rw [List.take_add_one, h, Option.toList_some, Bool.eq_iff_iff]; simp
 dsimp only
 by_cases e : x = q
 ·rw [hm, decide_eq_true e, Bool.or_true, if_pos e]; rfl
 rw [hm, decide_eq_false e, Bool.or_false, if_neg e]
theorem ugm {F W : List PlaceD} (hW : W.Nodup) {k : Nat} {q : PlaceD} (h : W[k]? = some q) (hq : q ∈ F) : tq (ip (ie F (W.take k))) q = ip (ie F (W.take (k + 1))) := by
 funext x
 unfold tq ip
 rw [ugo hW h x]
 by_cases e : x = q
 ·rw [if_pos e, decide_eq_true e, decide_eq_true hq]; rfl
 rw [if_neg e, decide_eq_false e]; rfl
theorem ugl {F W : List PlaceD} (hW : W.Nodup) {k : Nat} {q : PlaceD} (h : W[k]? = some q) (hq : q ∉ F) : lx (ip (ie F (W.take k))) q (.v (.bool true)) = ip (ie F (W.take (k + 1))) := by
 funext x
 unfold lx ip
 rw [ugo hW h x]
 by_cases e : x = q
 ·rw [if_pos e, decide_eq_true e, decide_eq_false hq]; rfl
 rw [if_neg e, decide_eq_false e]; rfl
theorem onceM_ne {f : PlaceD → Bool} {q : PlaceD} : ip f q ≠ none ↔ f q = true := by
 unfold ip
 cases f q <;> simp
theorem ucf {f : PlaceD → Bool} {q : PlaceD} {c : C} (h : ip f q = some c) : c = .v (.bool true) := by
 unfold ip at h
 cases hf : f q <;> rw [hf] at h
 ·cases h
 cases h; rfl
theorem pv (f : PlaceD → Bool) (n : Nat) : ∀ x c, ip f x = some c → C.low n c := fun x c h => by rw [ucf h]; exact .v
def xo (ks done : List PlaceD) : Nat := (ks.filter fun y => decide (y ∉ done)).length
theorem uho {ks done : List PlaceD} {y : PlaceD} (hy : y ∈ ks) (hn : y ∉ done) : xo ks (done ++ [y]) < xo ks done := by
 unfold xo
 induction ks with
 | nil => cases hy
 | cons z ks ih =>
  have hle : (ks.filter fun y' => decide (y' ∉ done ++ [y])).length ≤ (ks.filter fun y' => decide (y' ∉ done)).length := by
   rw [← List.countP_eq_length_filter, ← List.countP_eq_length_filter]
   refine List.countP_mono_left fun a _ ha => ?_
   simp only [decide_eq_true_eq, List.mem_append, not_or] at ha ⊢
   exact ha.1
  by_cases e : z = y
  ·subst e
   rw [List.filter_cons_of_neg (by simp), List.filter_cons_of_pos (by simpa using hn)]
   simp only [List.length_cons]
   omega
  have hy' : y ∈ ks := by
   rcases List.mem_cons.1 hy with h | h
   ·exact absurd h.symm e
   exact h
  have := ih hy'
  by_cases hz : z ∈ done
  ·rw [List.filter_cons_of_neg (by simp [hz]), List.filter_cons_of_neg (by simp [hz])]
   exact this
  rw [List.filter_cons_of_pos (by simp [hz, e]), List.filter_cons_of_pos (by simp [hz])]
  simp only [List.length_cons]
  omega
theorem ujp {p : ah} {x : ak} {q : PlaceD} {k : Nat} {last : Int} (hp : qk p last x) (hB : er p.text x = []) (hq : x.well[k]? = some q) : q ∉ x.found := fun hf => by
 have : q ∈ er p.text x := by
  show q ∈ (av p.text).filter _
  rw [List.mem_filter, Bool.and_eq_true, decide_eq_true_eq, decide_eq_true_eq, allQ_mem]
  exact ⟨(o4 hp.found hf).1, hf, List.mem_of_getElem? hq⟩
 rw [hB] at this; cases this
theorem ugi {p : PlaceD → Prop} : Ord3 p n7 := by
 have key : ∀ a b, n7 a b < 0 ↔ ltW (dn a) (dn b) := fun a b => qf (by rfl)
 refine ⟨fun x _ => ?_, fun x y z _ _ _ h k => ?_, fun x y z _ _ _ h k => ?_⟩
 ·rw [key]; exact si _
 ·rw [key] at h k ⊢; exact u6 h k
 rw [key] at h k ⊢
 intro hxz
 by_cases h1 : ltW (dn y) (dn x)
 ·exact k (u6 h1 hxz)
 rw [ucq (a := dn x) (b := dn y) rfl h h1] at hxz; exact k hxz
def PBd9 (q : PlaceD) : Prop := (0 ≤ q.ch ∧ q.ch ≤ 100000) ∧ (0 ≤ q.ln ∧ q.ln ≤ 100000) ∧ 0 ≤ q.wd ∧ q.wd ≤ 100000
theorem PBd9.plain {a : PlaceD} (h : PBd9 a) : Plain (cells a) := fun c hc => by
 obtain ⟨h1, h2, h3⟩ := h
 have hc' : c ∈ [C.v (.int .i64 a.ch), C.v (.int .i64 a.ln), C.v (.int .i64 a.wd)] := hc
 simp only [List.mem_cons, List.not_mem_nil, or_false] at hc'
 rcases hc' with rfl | rfl | rfl
 ·exact ⟨_, rfl, lj (by omega)⟩
 ·exact ⟨_, rfl, lj (by omega)⟩
 exact ⟨_, rfl, lj (by omega)⟩
theorem uf0 {t : aj} (ht : ed t = true) {q : PlaceD} (h : gj t q = true) : PBd9 q := by
 obtain ⟨l, hw, hw1, hw2⟩ := placeB_true.1 h
 have := yr ht hw
 exact ⟨by omega, by omega, by omega, by omega⟩
theorem ugj {p : ah} {x : ak} {last : Int} (hp : qk p last x) {q : PlaceD} (h : ie x.found x.well q = true) : gj p.text q = true := by
 unfold ie at h
 by_cases h1 : q ∈ x.found
 ·exact (o4 hp.found h1).1
 by_cases h2 : q ∈ x.well
 ·exact (o4 hp.well h2).1
 simp [h1, h2] at h
theorem ugk {p : ah} {x : ak} {last : Int} (hp : qk p last x) (ht : ed p.text = true) {done : List PlaceD} (h : ∀ q ∈ done, ie x.found x.well q = true) : ∀ q ∈ done, PBd9 q := fun q hq => uf0 ht (ugj hp (h q hq))
theorem utz {p : ah} {x : ak} {last : Int} (_ : qk p last x) (ht : ed p.text = true) {q : PlaceD} (h : q ∈ er p.text x) : PBd9 q := by
 have : q ∈ (av p.text).filter _ := h
 exact uf0 ht (allQ_mem.1 (List.mem_filter.1 this).1)
theorem zp {p : ah} {x : ak} {last : Int} (hp : qk p last x) {done : List PlaceD} (hn : done.Nodup) (h : ∀ q ∈ done, ie x.found x.well q = true) : done.length ≤ (av p.text).length :=
 ugu hn fun q hq => allQ_mem.2 (ugj hp (h q hq))
section
variable {P : Program} {o : Oper} {st : St} {K : St → Prop}
/-- A slice that is nil is nil. -/
theorem us1 {t t' e : TypeId} [Elt P t e] {x : Operand} {rows : List (List C)} (ho : o.op = .binOp .eql t x (.const (.slice none 0 0)) t') (hx : evC st x = .list rows .nil) (h : K (st.put o.dst (.v (.bool true)))) : EStep P o st K :=
 lp fun E w a hsim => by
  have hr := hx ▸ hsim.ev x
  obtain ⟨ad, cap, _, _, hv, h1, _, _, _, _, _, h7, z1, _⟩ := R.list_inv hr
  obtain ⟨rfl, rfl⟩ := z1 rfl
  have q1 := Elt.spec (P := P) (t := t) (e := e)
  refine ⟨.bool true, w, E, st.G, st.nx, .v (.bool true), ?_, Ev.refl E w, .v rfl, hsim.g, h⟩
  have hq := run_equal_slice_nil (P := P) w t e none rows.length 0 q1
  have he2 : a.eval (.const (.slice none 0 0)) = .slice none 0 0 := rfl
  simp [execOp, ho, hv, he2, eqGuard, binOp, hq]
/-- .. one in which something is, is not. -/
theorem ujf {t t' e : TypeId} [Elt P t e] {x : Operand} {rows : List (List C)} {tok : Tok} (hne : rows ≠ []) (ho : o.op = .binOp .eql t x (.const (.slice none 0 0)) t') (hx : evC st x = .list rows tok) (h : K (st.put o.dst (.v (.bool false)))) : EStep P o st K :=
 ujg ho hx fun b hb => by rw [hb hne]; exact h
end
end Go.AB
namespace Go.Proofs.YtgffhbbcpgdjjaaGreatDoor
set_option maxRecDepth 10000
open Go Go.RowKit Go.AB
open Go.AB.Enc (cells)
open Go.PB (ay aj PlaceD bg bi bh bn ak ah cr bq dr dt)
instance : Ty Tryz.prog (srt_Place_ren.t 24) true (Enc.n PlaceD) := inferInstanceAs (Ty Tryz.prog 41 true 3)
theorem uth : Pure Tryz.prog 88 [.list [] .nil] (.list [] .nil) := by
 refine dg Tryz.func88 rfl (fun m => (.list (fun r hr => by cases hr) (fun k hk => by cases hk))) fun G nx => ?_
 simp only [Tryz.ntmps88, List.length_cons, List.length_nil, Nat.reduceAdd, Nat.reduceSub]
 refine cb fun hlt => ?_
 dsimp only at hlt
 refine yS fun _ K1 => ?_
 refine yR ?_
 refine yA rfl rfl ?_
 refine yN ?_
 dsimp only [St.put]
 refine K1 _ ?_
 refine yS fun _ K2 => ?_
 refine yS fun _ K3 => ?_
 refine yR ?_
 refine yM rfl rfl ?_
 refine ae rfl (us1 rfl rfl ?_)
 refine yN ?_
 dsimp only [St.put]
 refine K3 _ ?_
 refine aq rfl (fun hc => ?_) (fun hc => ?_)
 ·try replace hc := of_decide_eq_true hc
  refine yS fun _ K4 => ?_
  refine yR ?_
  refine yA rfl rfl ?_
  refine yN ?_
  dsimp only [St.put]
  refine K4 _ ?_
  refine ar ?_
  refine bj rfl (by constructor) zN zS ?_
  rfl
 try replace hc := of_decide_eq_false hc
 refine ax ?_
 refine K2 _ ?_
 refine yS fun _ K5 => ?_
 refine yR ?_
 try dsimp only [St.put]
 refine ae rfl (yd rfl ?_)
 refine yM rfl rfl ?_
 try dsimp only [St.put]
 refine ae rfl (uau rfl rfl (.inl rfl) rfl (show 1 ≤ 3 by decide) (fun r hr => by cases hr) (by simp) (by simp) ?_)
 refine yA rfl rfl ?_
 refine yN ?_
 dsimp only [St.put]
 refine K5 _ ?_
 refine ar ?_
 exact absurd hc (by decide)
theorem utg (l : List PlaceD) (hne : l ≠ []) (hl : l.length ≤ 1000) (G : Nat → Option GObj) (nx : Nat) : PC Tryz.prog 88 [lst l] G nx fun r G' nx' => r = .own nx 0 l.length ∧ G' = ai G nx (.arr 0 0 41 3 l.length (az l)) ∧ nx' = nx + 1 := by
 refine jg (ai G nx (.arr 0 0 41 3 l.length (az l))) (nx + 1) Tryz.func88 rfl (.own (Nat.lt_succ_self _)) zN (fun hlt => (by (repeat' (refine ka ?_ (by (try dsimp only); omega) ?_)); all_goals (first | exact mn zS | (repeat' (first | exact trivial | refine ⟨?_, ?_⟩ | exact .v | exact .any | refine .elem ?_ | exact bv _ _ | exact fy _ _ | exact eu _ _ | exact fg _ (by (try dsimp only); omega) | exact .box (by (try dsimp only); omega) | exact fj | exact dq | exact e8 _ | refine f9 ?_ ?_ | exact .arr (by (try dsimp only); omega) | exact .own (by (try dsimp only); omega) | exact .map (by (try dsimp only); omega) | exact e8 _ | refine ce ?_ ?_ | exact bv _ _))))) ?_
 simp only [Tryz.ntmps88, List.length_cons, List.length_nil, Nat.reduceAdd, Nat.reduceSub]
 refine cb fun hlt => ?_
 dsimp only at hlt
 refine yS fun _ K1 => ?_
 refine yR ?_
 refine yA rfl rfl ?_
 refine yN ?_
 dsimp only [St.put]
 refine K1 _ ?_
 refine yS fun _ K2 => ?_
 refine yS fun _ K3 => ?_
 refine yR ?_
 refine yM rfl rfl ?_
 refine ae rfl (ujf (fun e => hne (by simpa using e)) rfl rfl ?_)
 refine yN ?_
 dsimp only [St.put]
 refine K3 _ ?_
 refine aq rfl (fun hc => ?_) (fun hc => ?_)
 ·try replace hc := of_decide_eq_true hc
  refine yS fun _ K4 => ?_
  refine yR ?_
  refine yA rfl rfl ?_
  refine yN ?_
  dsimp only [St.put]
  refine K4 _ ?_
  refine ar ?_
  exact absurd hc (by decide)
 try replace hc := of_decide_eq_false hc
 refine ax ?_
 refine K2 _ ?_
 refine yS fun _ K5 => ?_
 refine yR ?_
 try dsimp only [St.put]
 refine ae rfl (yd rfl ?_)
 refine yM rfl rfl ?_
 try dsimp only [St.put]
 refine ae rfl (ujj l rfl rfl (.inl rfl) rfl rfl hne (by decide) (by omega) (by omega) ?_)
 refine yA rfl rfl ?_
 refine yN ?_
 dsimp only [St.put]
 refine K5 _ ?_
 refine ar ?_
 refine bj rfl (by constructor) zN zS ?_
 rfl
set_option maxHeartbeats 4000000 in
theorem uuv (p : ah) (last : Int) (x : ak) (ws : List Int) (al bo : List (List PlaceD)) (nB a1 a2 a3 V : Nat) (ht : ed p.text = true) (hp : qk p last x) (hw : ws.length ≤ 100) (ha : al.length ≤ 100) (hb : bo.length ≤ 100) (G : Nat → Option GObj) (nx : Nat) (hN : nB < nx) (h1 : a1 < nx) (h2 : a2 < nx) (h3 : a3 < nx) (d1 : nB ≠ a1) (d2 : nB ≠ a2) (d3 : nB ≠ a3) (d4 : a1 ≠ a2) (d5 : a1 ≠ a3) (d6 : a2 ≠ a3)
  (hGB : G nB = some (((.box (V) [lst p.text, lst p.firsts, lst p.seconds, lst p.pages, .list ((ws).map cells) (.tip a1), .list ((al).map cells) (.tip a2), .list ((bo).map cells) (.tip a3)])))) (hG1 : G a1 = some (.tip ws.length 3 1)) (hG2 : G a2 = some (.tip al.length 36 1)) (hG3 : G a3 = some (.tip bo.length 36 1)) :
  PC Tryz.prog 68 [.box nB 0 0, val x, lst (ou p.text p.text.length)] G nx fun r' G' nx' => r' = .tup [] ∧ G' = ai (ai (ai (ai G nB (((.box ((V + 1 + 1 + 1)) [lst p.text, lst p.firsts, lst p.seconds, lst p.pages, .list (((ws ++ [(fh p.text x : Int)])).map cells) (.tip a1), .list (((al ++ [d7 p.text x])).map cells) (.tip a2), .list (((bo ++ [er p.text x])).map cells) (.tip a3)])))) a1 (.tip (ws ++ [(fh p.text x : Int)]).length 3 1)) a2 (.tip (al ++ [d7 p.text x]).length 36 1)) a3 (.tip (bo ++ [er p.text x]).length 36 1) ∧ nx' = nx := by
 refine jg (ai (ai (ai (ai G nB (((.box ((V + 1 + 1 + 1)) [lst p.text, lst p.firsts, lst p.seconds, lst p.pages, .list (((ws ++ [(fh p.text x : Int)])).map cells) (.tip a1), .list (((al ++ [d7 p.text x])).map cells) (.tip a2), .list (((bo ++ [er p.text x])).map cells) (.tip a3)])))) a1 (.tip (ws ++ [(fh p.text x : Int)]).length 3 1)) a2 (.tip (al ++ [d7 p.text x]).length 36 1)) a3 (.tip (bo ++ [er p.text x]).length 36 1)) (nx) Tryz.func68 rfl (.tup dq) zN (fun hlt => zH) ?_
 simp only [Tryz.ntmps68, List.length_cons, List.length_nil, Nat.reduceAdd, Nat.reduceSub]
 refine cb fun hlt => ?_
 dsimp only at hlt
 obtain ⟨hl1, hl2, hl3⟩ := mx ht
 have hal := mr ht
 have hnd1 := ubn (uap hp.found)
 have hnd2 := ubn (uap hp.well)
 have hfl := oe hp.found
 have hwl := oe hp.well
 have hbl := ujs p.text x
 have hgl := vj p.text x
 have hwx := yu p.text x
 have hwt : ∀ (f : PlaceD → Bool) (l : List PlaceD), (l.filter f).length ≤ l.length := fun f l => List.length_filter_le f l
 have hstl := uer p.text p.text.length
 have hmw : x.well.take x.well.length = x.well := List.take_length
 refine yS fun _ K1 => ?_
 refine yR ?_
 try dsimp only [St.put]
 refine yB rfl rfl rfl ?_
 refine yN ?_
 dsimp only [St.put]
 refine K1 _ ?_
 refine yS fun _ K2 => ?_
 refine yR ?_
 refine yA rfl rfl ?_
 refine yN ?_
 dsimp only [St.put]
 rw [show (0 : Int) = ((gw p.text x (av (p.text.take 0)) : Nat) : Int) from rfl]
 refine K2 _ ?_
 refine yS fun _ K3 => ?_
 refine yS fun _ K4 => ?_
 refine yR ?_
 refine yM rfl rfl ?_
 refine aa rfl (iy rfl rfl) ?_
 refine aa rfl (c7 rfl rfl) ?_
 refine aa rfl (c7 rfl rfl) ?_
 refine aa rfl (c7 rfl rfl) ?_
 try dsimp only [St.put]
 refine bk rfl (ez rfl rfl zG trivial (by first | rfl | assumption)) ?_
 refine aa rfl (bp rfl rfl (List.length_map _)) ?_
 refine yM rfl rfl ?_
 refine yN ?_
 dsimp only [St.put]
 refine K4 _ ?_
 refine bf ?_
 refine cm 27 ?_
 refine zQ ?_
 refine dj (X := Nat) (fun k => k ≤ p.text.length) (fun k => p.text.length - k) (fun k => [(6, .v (.int .i64 ((gw p.text x (av (p.text.take k)) : Nat) : Int))), (7, .any), (8, .any), (9, .any), (10, .any), (26, .v (.int .i64 (k : Int)))]) (fun k G' => G') 0 rfl ?_ ?_ (fun _ _ h => h) ?_ ?_ ?_
 ·exact Nat.zero_le _
 ·exact zF
 ·rintro k hI
  exact zL
 ·exact fun _ _ _ _ h => .inl h
 rintro k hI
 dsimp only at hI ⊢
 refine yS fun _ K5 => ?_
 refine yR ?_
 refine aa rfl (ck rfl rfl rfl) ?_
 refine yN ?_
 dsimp only [St.put]
 refine K5 _ ?_
 refine yS fun _ K6 => ?_
 refine aq rfl (fun hc => ?_) (fun hc => ?_)
 ·replace hc := of_decide_eq_true hc
  obtain ⟨c, hcx⟩ : ∃ c, p.text[k]? = some c := dl (by omega)
  have hll := (hl3 c (gh hcx)).2.1
  have hwo := (hl3 c (gh hcx)).2.2
  have hst := ues (t := p.text) (k := p.text.length) (i := k) (by omega)
  have hsb := y8 ht k (by omega)
  refine ax ?_
  refine K6 _ ?_
  refine yS fun _ K7 => ?_
  refine bf ?_
  refine yS fun _ K8 => ?_
  refine yR ?_
  refine yM rfl rfl ?_
  refine aa rfl (bw rfl rfl rfl rfl (bu (by assumption)) (Enc.len _)) ?_
  refine yE rfl rfl rfl ?_
  try dsimp only [St.put]
  refine ae rfl (dx rfl ?_)
  refine yA rfl rfl ?_
  try dsimp only [St.put]
  refine ae rfl (di rfl rfl rfl zG rfl rfl (by rfl) ?_)
  refine yN ?_
  dsimp only [St.put]
  refine K8 _ ?_
  refine gg (i := 8) rfl zG zC ?_
  dsimp only
  refine yS fun _ K9 => ?_
  refine yR ?_
  refine yF rfl rfl rfl rfl ?_
  refine yL rfl rfl rfl ?_
  refine aa rfl (bp rfl rfl (List.length_map _)) ?_
  refine yM rfl rfl ?_
  refine yN ?_
  dsimp only [St.put]
  rw [uki p.text k c.lines]
  refine K9 _ ?_
  refine bf ?_
  refine cm 35 ?_
  refine zQ ?_
  refine dj (X := Nat) (fun n => n ≤ c.lines.length) (fun n => c.lines.length - n) (fun n => [(6, .v (.int .i64 ((gw p.text x (iu p.text k c.lines n) : Nat) : Int))), (9, .any), (10, .any), (34, .v (.int .i64 (n : Int)))]) (fun n G' => G') 0 rfl ?_ ?_ (fun _ _ h => h) ?_ ?_ ?_
  ·exact Nat.zero_le _
  ·exact zF
  ·rintro n hI
   exact zL
  ·exact fun _ _ _ _ h => .inl h
  rintro n hJ
  dsimp only at hJ ⊢
  refine yS fun _ K10 => ?_
  refine yR ?_
  refine aa rfl (ck rfl rfl rfl) ?_
  refine yN ?_
  dsimp only [St.put]
  refine K10 _ ?_
  refine yS fun _ K11 => ?_
  refine aq rfl (fun hc => ?_) (fun hc => ?_)
  ·replace hc := of_decide_eq_true hc
   obtain ⟨l, hn⟩ : ∃ l, c.lines[n]? = some l := dl (by omega)
   have hlb := hwo l (gh hn)
   have hqb : gw p.text x (iu p.text k c.lines n) ≤ 600 := by
    have hle := ukh ht hcx hn 0
    rw [← ukg] at hle
    have := hwt (dw p.text x) (iu p.text k c.lines n)
    unfold gw
    omega
   refine ax ?_
   refine K11 _ ?_
   refine yS fun _ K12 => ?_
   refine bf ?_
   refine yS fun _ K13 => ?_
   refine yR ?_
   refine yM rfl rfl ?_
   refine aa rfl (bw rfl rfl rfl rfl (bu (by assumption)) (Enc.len _)) ?_
   refine yL rfl rfl rfl ?_
   refine yA rfl rfl ?_
   refine yA rfl rfl ?_
   refine yN ?_
   dsimp only [St.put]
   refine K13 _ ?_
   refine yS fun _ K14 => ?_
   refine fw [(0, none), (1, none), (2, none), (3, none), (4, none), (5, none), (6, none), (7, none), (8, none), (9, none), (10, none), (11, none)] (fun i => [11].contains i) (fun i => [10, 11].contains i) (fun i => [0, 2, 4, 5, 6, 8, 9].contains i) [] (by kernel_rfl) (by kernel_rfl) ?_
   refine af rfl rfl rfl rfl (cp rfl rfl rfl) ?_
   try dsimp only [St.put]
   refine aw rfl rfl rfl rfl (ca rfl rfl) ?_
   refine af rfl rfl rfl rfl (cp rfl rfl rfl) ?_
   try dsimp only [St.put]
   refine aw rfl rfl rfl rfl (ca rfl rfl) ?_
   refine xM rfl rfl rfl rfl rfl ?_
   refine xM rfl rfl rfl rfl rfl ?_
   try dsimp only [St.put]
   refine af rfl rfl rfl rfl (bw rfl rfl rfl rfl (bu (by assumption)) (Enc.len _)) ?_
   try dsimp only [St.put]
   refine aw rfl rfl rfl rfl (ca rfl rfl) ?_
   refine xM rfl rfl rfl rfl rfl ?_
   refine af rfl rfl rfl rfl (br rfl rfl rfl (by omega)) ?_
   refine gu ?_
   try dsimp only [St.put]
   refine ij rfl rfl rfl (ef rfl rfl rfl (by decide) (by decide) zR (by decide) ⟨zD, ?_⟩)
   try dsimp only [St.put]
   refine f4 rfl rfl rfl rfl (ba rfl rfl rfl (pu _ _ [_]) ?_)
   refine gt ?_
   dsimp only [St.put]
   refine K14 _ ?_
   refine aq rfl (fun hc => ?_) (fun hc => ?_)
   ·have hpg : inB ((gq p.text k : Int) + (n : Int)) x.fr x.to = true := by rw [ig] at hc; exact hc
    refine yR ?_
    refine yM rfl rfl ?_
    refine yM rfl rfl ?_
    refine aa rfl (bp rfl rfl (List.length_map _)) ?_
    refine aa rfl (br rfl rfl rfl (by omega)) ?_
    refine yA rfl rfl ?_
    refine yN ?_
    dsimp only [St.put]
    refine K12 _ ?_
    refine yR ?_
    refine aa rfl (br rfl rfl rfl (by omega)) ?_
    refine yM rfl rfl ?_
    refine yN ?_
    dsimp only [St.put]
    have e := ud2 p.text x (k := k) hn
    first
    | (rw [hpg, cond_true] at e
       rw [show ((gw p.text x (iu p.text k c.lines n) : Nat) : Int) + (l.length : Int) = ((gw p.text x (iu p.text k c.lines (n + 1)) : Nat) : Int) by rw [e]; rfl]
       exact ⟨n + 1, by omega, by omega, ⟨⟨rfl, rfl⟩, zF, zB, zN, zX⟩⟩)
    | (rw [hpn, cond_false] at e
       rw [show gw p.text x (iu p.text k c.lines n) = gw p.text x (iu p.text k c.lines (n + 1)) from e.symm]
       exact ⟨n + 1, by omega, by omega, ⟨⟨rfl, rfl⟩, zF, zB, zN, zX⟩⟩)
   have hpn : inB ((gq p.text k : Int) + (n : Int)) x.fr x.to = false := by rw [ig] at hc; exact hc
   refine ax ?_
   refine K12 _ ?_
   refine yR ?_
   refine aa rfl (br rfl rfl rfl (by omega)) ?_
   refine yM rfl rfl ?_
   refine yN ?_
   dsimp only [St.put]
   have e := ud2 p.text x (k := k) hn
   first
   | (rw [hpg, cond_true] at e
      rw [show ((gw p.text x (iu p.text k c.lines n) : Nat) : Int) + (l.length : Int) = ((gw p.text x (iu p.text k c.lines (n + 1)) : Nat) : Int) by rw [e]; rfl]
      exact ⟨n + 1, by omega, by omega, ⟨⟨rfl, rfl⟩, zF, zB, zN, zX⟩⟩)
   | (rw [hpn, cond_false] at e
      rw [show gw p.text x (iu p.text k c.lines n) = gw p.text x (iu p.text k c.lines (n + 1)) from e.symm]
      exact ⟨n + 1, by omega, by omega, ⟨⟨rfl, rfl⟩, zF, zB, zN, zX⟩⟩)
  replace hc := of_decide_eq_false hc
  refine c6 ?_
  refine K7 _ ?_
  refine yR ?_
  refine aa rfl (br rfl rfl rfl (by omega)) ?_
  refine yM rfl rfl ?_
  refine yN ?_
  dsimp only [St.put]
  rw [ukj (n := n) hcx (by omega)]
  exact ⟨k + 1, by omega, by omega, ⟨⟨rfl, rfl⟩, zF, zB, zN, zX⟩⟩
 replace hc := of_decide_eq_false hc
 obtain rfl : k = p.text.length := by omega
 rw [List.take_length, ulb]
 refine c6 ?_
 refine K3 _ ?_
 refine yS fun _ K15 => ?_
 refine yR ?_
 try dsimp only [St.put]
 refine ae rfl (uc8 (α := PlaceD) rfl ?_)
 refine yA rfl rfl ?_
 refine yN ?_
 dsimp only [St.put]
 refine K15 _ ?_
 refine yS fun _ K16 => ?_
 refine yS fun _ K17 => ?_
 refine yR ?_
 refine yF rfl rfl rfl rfl ?_
 refine yL rfl rfl rfl ?_
 refine aa rfl (bp rfl rfl (List.length_map _)) ?_
 refine yM rfl rfl ?_
 refine yN ?_
 dsimp only [St.put]
 refine K17 _ ?_
 refine bf ?_
 refine cm 62 ?_
 refine zQ ?_
 refine dm ((ai G nx (jk Tryz.prog 41 (0) ((fun _ => none))))) zX ?_
 dsimp only
 refine dj (X := Nat) (fun k => k ≤ x.found.length) (fun k => x.found.length - k) (fun k => [(13, .any), (61, .v (.int .i64 (k : Int)))]) (fun k G' => (ai G nx (jk Tryz.prog 41 (k) ((ip fun q => decide (q ∈ x.found.take k)))))) 0 rfl ?_ ?_ ?_ ?_ ?_ ?_
 ·exact Nat.zero_le _
 ·exact zF
 ·rw [show (ip fun q => decide (q ∈ x.found.take 0)) = fun _ => none from up6]
  exact zX
 ·rintro k hI
  exact (by (try dsimp only); repeat' (first | exact trivial | refine ⟨?_, ?_⟩ | exact .v | exact .any | refine .elem ?_ | exact bv _ _ | exact fy _ _ | exact eu _ _ | exact fg _ (by (try dsimp only); omega) | exact .box (by (try dsimp only); omega) | exact fj | exact dq | exact jj (pv _ _) | refine f9 ?_ ?_ | exact .arr (by (try dsimp only); omega) | exact .own (by (try dsimp only); omega) | exact .map (by (try dsimp only); omega) | exact e8 _ | refine ce ?_ ?_ | exact bv _ _))
 ·rintro k hI
  exact (by (repeat' (refine ka ?_ (by (try dsimp only); omega) ?_)); all_goals (first | exact mn zS | (repeat' (first | exact trivial | refine ⟨?_, ?_⟩ | exact .v | exact .any | refine .elem ?_ | exact bv _ _ | exact fy _ _ | exact eu _ _ | exact fg _ (by (try dsimp only); omega) | exact .box (by (try dsimp only); omega) | exact fj | exact dq | exact jj (pv _ _) | refine f9 ?_ ?_ | exact .arr (by (try dsimp only); omega) | exact .own (by (try dsimp only); omega) | exact .map (by (try dsimp only); omega) | exact e8 _ | refine ce ?_ ?_ | exact bv _ _))))
 rintro k hK
 dsimp only at hK ⊢
 refine yS fun _ K18 => ?_
 refine yR ?_
 refine aa rfl (ck rfl rfl rfl) ?_
 refine yN ?_
 dsimp only [St.put]
 refine K18 _ ?_
 refine yS fun _ K19 => ?_
 refine aq rfl (fun hc => ?_) (fun hc => ?_)
 ·replace hc := of_decide_eq_true hc
  obtain ⟨q, hq⟩ : ∃ q, x.found[k]? = some q := dl (by omega)
  refine ax ?_
  refine K19 _ ?_
  refine yS fun _ K20 => ?_
  refine bf ?_
  refine yS fun _ K21 => ?_
  refine yR ?_
  refine aa rfl (bw rfl rfl rfl rfl (bu (by assumption)) (Enc.len _)) ?_
  refine yE rfl rfl rfl ?_
  try dsimp only [St.put]
  refine ae rfl (dx rfl ?_)
  try dsimp only [St.put]
  refine ae rfl (di rfl rfl rfl zG rfl rfl (by rfl) ?_)
  refine yN ?_
  dsimp only [St.put]
  refine K21 _ ?_
  refine gg (i := 13) rfl zG zC ?_
  dsimp only
  refine yR ?_
  refine yM rfl rfl ?_
  refine yE rfl rfl rfl ?_
  try dsimp only [St.put]
  refine ae rfl (x8 (q) rfl rfl rfl zG rfl (up7 hq) ?_)
  refine yN ?_
  dsimp only [St.put]
  refine K20 _ ?_
  refine yR ?_
  refine aa rfl (br rfl rfl rfl (by omega)) ?_
  refine yM rfl rfl ?_
  refine yN ?_
  dsimp only [St.put]
  exact ⟨k + 1, by omega, by omega, ⟨⟨rfl, rfl⟩, zF, zB, zN, zX⟩⟩
 replace hc := of_decide_eq_false hc
 obtain rfl : k = x.found.length := by omega
 rw [List.take_length, show (fun q => decide (q ∈ x.found)) = ie x.found (x.well.take 0) from funext fun q => (up8 x.found q).symm]
 refine c6 ?_
 refine K16 _ ?_
 refine yS fun _ K22 => ?_
 by_cases hB : er p.text x = []
 ·refine yR ?_
  refine yA rfl rfl ?_
  refine yN ?_
  dsimp only [St.put]
  refine K22 _ ?_
  refine yS fun _ K23 => ?_
  refine yS fun _ K24 => ?_
  refine yR ?_
  refine yF rfl rfl rfl rfl ?_
  refine yL rfl rfl rfl ?_
  refine aa rfl (bp rfl rfl (List.length_map _)) ?_
  refine yM rfl rfl ?_
  refine yN ?_
  dsimp only [St.put]
  refine K24 _ ?_
  refine bf ?_
  refine cm 72 ?_
  refine zQ ?_
  refine dm ((ai G nx (jk Tryz.prog 41 (x.found.length) ((ip (ie x.found (x.well.take 0))))))) zX ?_
  dsimp only
  refine dj (X := Nat) (fun k => k ≤ x.well.length) (fun k => x.well.length - k) (fun k => [(16, .any), (71, .v (.int .i64 (k : Int)))]) (fun k G' => (ai G nx (jk Tryz.prog 41 ((x.found.length + k)) ((ip (ie x.found (x.well.take k))))))) 0 rfl ?_ ?_ ?_ ?_ ?_ ?_
  ·exact Nat.zero_le _
  ·exact zF
  ·exact zX
  ·rintro k hI
   exact (by (try dsimp only); repeat' (first | exact trivial | refine ⟨?_, ?_⟩ | exact .v | exact .any | refine .elem ?_ | exact bv _ _ | exact fy _ _ | exact eu _ _ | exact fg _ (by (try dsimp only); omega) | exact .box (by (try dsimp only); omega) | exact fj | exact dq | exact jj (pv _ _) | refine f9 ?_ ?_ | exact .arr (by (try dsimp only); omega) | exact .own (by (try dsimp only); omega) | exact .map (by (try dsimp only); omega) | exact e8 _ | refine ce ?_ ?_ | exact bv _ _))
  ·rintro k hI
   exact (by (repeat' (refine ka ?_ (by (try dsimp only); omega) ?_)); all_goals (first | exact mn zS | (repeat' (first | exact trivial | refine ⟨?_, ?_⟩ | exact .v | exact .any | refine .elem ?_ | exact bv _ _ | exact fy _ _ | exact eu _ _ | exact fg _ (by (try dsimp only); omega) | exact .box (by (try dsimp only); omega) | exact fj | exact dq | exact jj (pv _ _) | refine f9 ?_ ?_ | exact .arr (by (try dsimp only); omega) | exact .own (by (try dsimp only); omega) | exact .map (by (try dsimp only); omega) | exact e8 _ | refine ce ?_ ?_ | exact bv _ _))))
  rintro k hK
  dsimp only at hK ⊢
  refine yS fun _ K25 => ?_
  refine yR ?_
  refine aa rfl (ck rfl rfl rfl) ?_
  refine yN ?_
  dsimp only [St.put]
  refine K25 _ ?_
  refine yS fun _ K26 => ?_
  refine aq rfl (fun hc => ?_) (fun hc => ?_)
  ·replace hc := of_decide_eq_true hc
   obtain ⟨q, hq⟩ : ∃ q, x.well[k]? = some q := dl (by omega)
   have hbt := ujr x.found x.well k
   refine ax ?_
   refine K26 _ ?_
   refine yS fun _ K27 => ?_
   refine bf ?_
   refine yS fun _ K28 => ?_
   refine yR ?_
   refine aa rfl (bw rfl rfl rfl rfl (bu (by assumption)) (Enc.len _)) ?_
   refine yE rfl rfl rfl ?_
   try dsimp only [St.put]
   refine ae rfl (dx rfl ?_)
   try dsimp only [St.put]
   refine ae rfl (di rfl rfl rfl zG rfl rfl (by rfl) ?_)
   refine yN ?_
   dsimp only [St.put]
   refine K28 _ ?_
   refine gg (i := 16) rfl zG zC ?_
   dsimp only
   refine yS fun _ K29 => ?_
   refine yR ?_
   refine yM rfl rfl ?_
   refine yE rfl rfl rfl ?_
   try dsimp only [St.put]
   refine bk rfl (ze q rfl rfl zG trivial rfl (ugn _ _)) ?_
   refine yN ?_
   dsimp only [St.put]
   refine K29 _ ?_
   refine aq rfl (fun hc => ?_) (fun hc => ?_)
   ·have hin : q ∈ x.found := by
     rw [zq hnd2 hq] at hc
     exact of_decide_eq_true hc
    refine yS fun _ K30 => ?_
    refine yR ?_
    refine yM rfl rfl ?_
    refine yE rfl rfl rfl ?_
    try dsimp only [St.put]
    refine ae rfl (ef rfl rfl rfl (by decide) (by decide) zR (by decide) ?_)
    try dsimp only [St.put]
    refine ae rfl (uau rfl rfl (.inr rfl) rfl (show 1 ≤ 3 by decide) (fun r hr => by rw [List.mem_singleton] at hr; subst hr; rfl) (by simp) (by simp) ?_)
    refine yA rfl rfl ?_
    refine yN ?_
    dsimp only [St.put]
    refine K30 _ ?_
    refine yR ?_
    refine yM rfl rfl ?_
    refine yE rfl rfl rfl ?_
    try dsimp only [St.put]
    refine ae rfl (ujh q rfl rfl zG rfl (ugm hnd2 hq hin) ?_)
    refine yN ?_
    dsimp only [St.put]
    refine K27 _ ?_
    refine yR ?_
    refine aa rfl (br rfl rfl rfl (by omega)) ?_
    refine yM rfl rfl ?_
    refine yN ?_
    dsimp only [St.put]
    first
    | exact absurd (show q ∈ x.found from hin) (ujp hp hB hq)
    | exact ⟨k + 1, by omega, by omega, ⟨⟨rfl, rfl⟩, zF, zB, zN, zX⟩⟩
   have hout : q ∉ x.found := by
    rw [zq hnd2 hq] at hc
    exact of_decide_eq_false hc
   refine yR ?_
   refine yM rfl rfl ?_
   refine yE rfl rfl rfl ?_
   try dsimp only [St.put]
   refine ae rfl (x8 (q) rfl rfl rfl zG rfl (ugl hnd2 hq hout) ?_)
   refine yN ?_
   dsimp only [St.put]
   refine K27 _ ?_
   refine yR ?_
   refine aa rfl (br rfl rfl rfl (by omega)) ?_
   refine yM rfl rfl ?_
   refine yN ?_
   dsimp only [St.put]
   first
   | exact absurd (show q ∈ x.found from hin) (ujp hp hB hq)
   | exact ⟨k + 1, by omega, by omega, ⟨⟨rfl, rfl⟩, zF, zB, zN, zX⟩⟩
  replace hc := of_decide_eq_false hc
  obtain rfl : k = x.well.length := by omega
  refine c6 ?_
  refine K23 _ ?_
  refine yS fun _ K31 => ?_
  refine yR ?_
  refine yM rfl rfl ?_
  try dsimp only [St.put]
  refine ae rfl (ba rfl rfl rfl (uth) ?_)
  refine yA rfl rfl ?_
  refine yN ?_
  dsimp only [St.put]
  refine K31 _ ?_
  refine uj8 17 41 3 rfl (by decide) ?_
  dsimp only
  refine yS fun _ K32 => ?_
  refine yS fun _ K33 => ?_
  refine yR ?_
  refine yM rfl rfl ?_
  try dsimp only [St.put]
  refine ae rfl (ujd rfl rfl zG fun r β cl ks hnd hks0 hinj => ?_)
  refine yN ?_
  dsimp only [St.put]
  refine K33 _ ?_
  rw [hmw] at hks0
  rw [hmw]
  refine bf ?_
  refine cm 91 ?_
  refine zQ ?_
  refine dm (ai (ai (ai (ai G nx (rk Tryz.prog 41 (x.found.length + x.well.length) (ip (ie x.found x.well)) β cl)) (nx + 1) (.arr 0 0 41 3 0 [])) (nx + 1 + 1) (.raw 0 (.mapIter (some r) cl (j8 β ([] : List PlaceD)) cl))) (nx + 1 + 1 + 1) (.fact (.map (some r)) (.map nx))) zX ?_
  dsimp only
  refine dj (X := List PlaceD × Nat × Nat × Nat) (fun y => (∀ z ∈ y.1, z ∈ ks) ∧ y.1.Nodup) (fun y => xo ks y.1) (fun y => [(17, .own (nx + 1) y.2.2.1 (([] : List PlaceD) ++ y.1).length), (18, .any)]) (fun y G' => (ai (ai (ai (ai G nx (rk Tryz.prog 41 ((x.found.length + x.well.length)) (ip ((ie x.found x.well))) β cl)) ((nx + 1)) (.arr y.2.2.1 y.2.2.2 41 3 ((([] : List PlaceD) ++ y.1)).length (az ((([] : List PlaceD) ++ y.1))))) ((nx + 1 + 1)) (.raw y.2.1 (.mapIter (some r) cl (j8 β y.1) cl))) ((nx + 1 + 1 + 1)) (.fact (.map (some r)) (.map nx)))) ([], 0, 0, 0) rfl ?_ ?_ ?_ ?_ ?_ ?_
  ·exact ⟨fun z hz => by simp at hz, List.nodup_nil⟩
  ·exact zF
  ·exact zX
  ·rintro ⟨done, wi, vl, wv⟩ hI
   exact (by (try dsimp only); repeat' (first | exact trivial | refine ⟨?_, ?_⟩ | exact .v | exact .any | refine .elem ?_ | exact bv _ _ | exact fy _ _ | exact eu _ _ | exact fg _ (by (try dsimp only); omega) | exact .box (by (try dsimp only); omega) | exact fj | exact dq | exact ual (pv _ _) | exact e8 _ | refine f9 ?_ ?_ | exact .arr (by (try dsimp only); omega) | exact .own (by (try dsimp only); omega) | exact .map (by (try dsimp only); omega) | exact e8 _ | refine ce ?_ ?_ | exact bv _ _))
  ·rintro ⟨done, wi, vl, wv⟩ hI
   exact (by (repeat' (refine ka ?_ (by (try dsimp only); omega) ?_)); all_goals (first | exact mn zS | (repeat' (first | exact trivial | refine ⟨?_, ?_⟩ | exact .v | exact .any | refine .elem ?_ | exact bv _ _ | exact fy _ _ | exact eu _ _ | exact fg _ (by (try dsimp only); omega) | exact .box (by (try dsimp only); omega) | exact fj | exact dq | exact ual (pv _ _) | exact e8 _ | refine f9 ?_ ?_ | exact .arr (by (try dsimp only); omega) | exact .own (by (try dsimp only); omega) | exact .map (by (try dsimp only); omega) | exact e8 _ | refine ce ?_ ?_ | exact bv _ _))))
  rintro ⟨done, wi, vl, wv⟩ hI8
  dsimp only at hI8 ⊢
  refine yS fun _ K34 => ?_
  refine yR ?_
  try dsimp only [St.put]
  refine ae rfl (uje (done := done) rfl rfl zG zG zG (hks0) (hinj) (hI8.1) (fun hend => ?_) (fun y c hym hyk hyd => ?_))
  ·have hdl := zp hp hI8.2 (fun q hq => onceM_ne.1 ((hks0 q).2 (hI8.1 q hq)))
   have hdk : ∀ q, q ∈ done ↔ ie x.found x.well q = true := fun q => ⟨fun hq => onceM_ne.1 ((hks0 q).2 (hI8.1 q hq)), fun hq => hend q ((hks0 q).1 (onceM_ne.2 hq))⟩
   have hpb := ugk hp ht (fun q hq => (hdk q).1 hq)
   refine yX rfl rfl rfl rfl ?_
   refine yN ?_
   dsimp only [St.put]
   refine K34 _ ?_
   refine yS fun _ K35 => ?_
   refine aq rfl (fun h => by cases h) (fun _ => ?_)
   refine c6 ?_
   refine K32 _ ?_
   refine yS fun _ K36 => ?_
   have hpb2 : ∀ y ∈ ([] : List PlaceD) ++ done, PBd9 y := fun y hy => hpb y (by simpa using hy)
   refine yR ?_
   refine yM rfl rfl ?_
   try dsimp only [St.put]
   refine ae rfl (ujc uev PBd9 n7 rfl rfl rfl rfl zG rfl rfl rfl (fun y hy => hy.plain) hpb2 (by first | (rw [List.length_append]; omega) | (simp only [List.nil_append]; omega)) (fun a b _ _ => uca a b _ _) ugi (fun ys hperm hsort => ?_))
   refine yN ?_
   dsimp only [St.put]
   have hlen := hperm.length_eq
   rw [← hB] at hperm hlen
   obtain rfl := uke hp hI8.2 hdk hperm hsort
   refine K36 _ ?_
   refine ua0 14 (lst ([] : List PlaceD)) rfl Wk.tok ?_
   refine udn 17 (d7 p.text x) rfl zG rfl rfl (by rw [hlen, hB]) ?_
   dsimp only
   refine udm [(0, none), (1, none), (2, none), (3, none), (4, none), (5, none), (6, none), (7, none), (10, none), (11, none), (12, none), (13, none), (14, none), (17, none), (18, none), (19, none), (20, none), (21, none)] (fun i => [23, 26, 29, 32].contains i) (fun i => [0, 1, 2, 3, 4, 5, 7, 10, 11, 12, 14, 17, 18, 19, 21].contains i) 15 (rl [8, 2, 5, 2, 5, 11]) [nB] (by kernel_rfl) (by kernel_rfl) ?_
   refine xM rfl rfl rfl rfl rfl ?_
   refine xM rfl rfl rfl rfl rfl ?_
   refine xM rfl rfl rfl rfl rfl ?_
   refine xM rfl rfl rfl rfl rfl ?_
   refine af rfl rfl rfl rfl (iy rfl rfl) ?_
   refine af rfl rfl rfl rfl (c7 rfl rfl) ?_
   try dsimp only [St.put]
   refine aw rfl rfl rfl rfl (ez rfl rfl zG (by simp) (by first | rfl | assumption)) ?_
   refine xM rfl rfl rfl rfl rfl ?_
   refine xM rfl rfl rfl rfl rfl ?_
   refine af rfl rfl rfl rfl (iy rfl rfl) ?_
   refine af rfl rfl rfl rfl (c7 rfl rfl) ?_
   try dsimp only [St.put]
   refine aw rfl rfl rfl rfl (ez rfl rfl zG (by simp) (by first | rfl | assumption)) ?_
   refine xM rfl rfl rfl rfl rfl ?_
   refine xM rfl rfl rfl rfl rfl ?_
   refine af rfl rfl rfl rfl (iy rfl rfl) ?_
   refine af rfl rfl rfl rfl (c7 rfl rfl) ?_
   try dsimp only [St.put]
   refine aw rfl rfl rfl rfl (ez rfl rfl zG (by simp) (by first | rfl | assumption)) ?_
   refine xM rfl rfl rfl rfl rfl ?_
   refine cw ⟨zD, ?_⟩
   dsimp only [St.put]
   refine ukp ws al bo (fh p.text x : Int) (d7 p.text x) (([] : List PlaceD)) nB a1 a2 a3 _ rfl (by kernel_rfl) (by kernel_rfl) (by kernel_rfl) rfl rfl rfl rfl rfl rfl rfl rfl rfl rfl rfl rfl rfl zG zG zG zG d1 d2 d3 d4 d5 d6 hw ha hb ?_
   dsimp only
   refine ru [(24, none), (25, none)] 7 (rl [26, 7]) (by kernel_rfl) ?_
   refine af rfl rfl rfl rfl (iy rfl rfl) ?_
   refine af rfl rfl rfl rfl (c7 rfl rfl) ?_
   refine cw ⟨zD, ?_⟩
   refine qj [26] (by kernel_rfl) (by simp) ?_
   refine qi ?_ ?_
   ·try dsimp only [St.put]
    refine vr rfl rfl rfl rfl (l5 rfl rfl rfl zG (by constructor) rfl zO ?_)
    refine ru [(27, none), (28, none)] 4 (rl [29, 4]) (by kernel_rfl) ?_
    refine af rfl rfl rfl rfl (iy rfl rfl) ?_
    refine af rfl rfl rfl rfl (c7 rfl rfl) ?_
    refine cw ⟨zD, ?_⟩
    refine qj [29] (by kernel_rfl) (by simp) ?_
    refine qi ?_ ?_
    ·try dsimp only [St.put]
     refine vr rfl rfl rfl rfl (l5 rfl rfl rfl zG (by constructor) rfl zO ?_)
     refine ru [(30, none), (31, none)] 1 (rl [32, 1]) (by kernel_rfl) ?_
     refine af rfl rfl rfl rfl (iy rfl rfl) ?_
     refine af rfl rfl rfl rfl (c7 rfl rfl) ?_
     refine cw ⟨zD, ?_⟩
     refine qj [32] (by kernel_rfl) (by simp) ?_
     refine qi ?_ ?_
     ·try dsimp only [St.put]
      refine vr rfl rfl rfl rfl (l5 rfl rfl rfl zG (by constructor) rfl zO ?_)
      dsimp only [St.put]
      refine ua6 (by kernel_rfl) ?_
      rw [hB]
      refine ui5 rfl (.inl rfl) zN (ueo zG zG zG zG fun n o q1 q2 q3 q4 h => ?_)
      have hn := hlt n o h
      (try dsimp only)
      repeat (first | exact h | rw [ct (by omega)] | rw [ki (by omega)])
     exact rr
    exact rr
   exact rr
  have hz0 := ucf hym
  subst hz0
  obtain ⟨z, hz⟩ : ∃ z, z = y := ⟨_, rfl⟩
  subst hz
  have hIn : ∀ z ∈ ks, ∀ x ∈ done ++ [z], x ∈ ks := fun z hz x hx => by
   rcases List.mem_append.1 hx with hx | hx
   ·exact hI8.1 x hx
   rw [List.mem_singleton] at hx; exact hx ▸ hz
  have hIu : ∀ z, z ∉ done → (done ++ [z]).Nodup := fun z hz => List.nodup_append.2 ⟨hI8.2, by simp, fun a ha b hb => by
   rw [List.mem_singleton] at hb; subst hb; exact fun e => hz (e ▸ ha)⟩
  have hdl := zp hp hI8.2 (fun q hq => onceM_ne.1 ((hks0 q).2 (hI8.1 q hq)))
  refine yX rfl rfl rfl rfl ?_
  refine yN ?_
  dsimp only [St.put]
  refine K34 _ ?_
  refine yS fun _ K37 => ?_
  refine aq rfl (fun _ => ?_) (fun h => by cases h)
  refine ax ?_
  refine K37 _ ?_
  refine bf ?_
  refine yS fun _ K38 => ?_
  refine yR ?_
  try dsimp only [St.put]
  refine bk rfl (ue8 (fx := nx + 1 + 1 + 1) (n := nx) rfl rfl zG trivial zG zG trivial (by assumption)) ?_
  refine yX rfl rfl rfl rfl ?_
  try dsimp only [St.put]
  refine ae rfl (dx rfl ?_)
  try dsimp only [St.put]
  refine ae rfl (di rfl rfl rfl zG rfl rfl (by rfl) ?_)
  refine yN ?_
  dsimp only [St.put]
  refine K38 _ ?_
  refine gg (i := 18) rfl zG zC ?_
  dsimp only
  refine yR ?_
  refine yM rfl rfl ?_
  try dsimp only [St.put]
  refine bk rfl (dz rfl rfl rfl) ?_
  try dsimp only [St.put]
  refine ae rfl (ef rfl rfl rfl (by decide) (by decide) zR (by decide) ?_)
  try dsimp only [St.put]
  refine ae rfl (rm (xs := ([] : List PlaceD) ++ done) [z] rfl rfl zG rfl rfl rfl rfl zA zA (fun v3 => ?_))
  refine yA rfl rfl ?_
  refine yN ?_
  dsimp only [St.put]
  simp only [List.append_assoc]
  exact ⟨(done ++ [z], wi + 1, v3, wv), uho hyk hyd, ⟨hIn z hyk, hIu z hyd⟩, ⟨⟨rfl, rfl⟩, zF, zB, zN, zX⟩⟩
 refine yR ?_
 refine yA rfl rfl ?_
 refine yN ?_
 dsimp only [St.put]
 refine K22 _ ?_
 refine qh 14 41 3 rfl (by decide) ?_
 dsimp only [List.set_cons_zero, List.set_cons_succ]
 refine yS fun _ K39 => ?_
 refine yS fun _ K40 => ?_
 refine yR ?_
 refine yF rfl rfl rfl rfl ?_
 refine yL rfl rfl rfl ?_
 refine aa rfl (bp rfl rfl (List.length_map _)) ?_
 refine yM rfl rfl ?_
 refine yN ?_
 dsimp only [St.put]
 refine K40 _ ?_
 refine bf ?_
 refine cm 72 ?_
 refine zQ ?_
 refine dm (ai ((ai G nx (jk Tryz.prog 41 (x.found.length) ((ip (ie x.found (x.well.take 0))))))) (nx + 1) (.tip 0 41 3)) zX ?_
 dsimp only
 refine dj (X := Nat) (fun k => k ≤ x.well.length) (fun k => x.well.length - k) (fun k => [(14, .list ((pc x.found x.well k).map cells) (.tip (nx + 1))), (16, .any), (71, .v (.int .i64 (k : Int)))]) (fun k G' => ai ((ai G nx (jk Tryz.prog 41 ((x.found.length + k)) ((ip (ie x.found (x.well.take k))))))) (nx + 1) (.tip (pc x.found x.well k).length 41 3)) 0 rfl ?_ ?_ ?_ ?_ ?_ ?_
 ·exact Nat.zero_le _
 ·exact zF
 ·exact zX
 ·rintro k hI
  exact (by (try dsimp only); repeat' (first | exact trivial | refine ⟨?_, ?_⟩ | exact .v | exact .any | refine .elem ?_ | exact bv _ _ | exact fy _ _ | exact eu _ _ | exact fg _ (by (try dsimp only); omega) | exact .box (by (try dsimp only); omega) | exact fj | exact dq | exact jj (pv _ _) | refine f9 ?_ ?_ | exact .arr (by (try dsimp only); omega) | exact .own (by (try dsimp only); omega) | exact .map (by (try dsimp only); omega) | exact e8 _ | refine ce ?_ ?_ | exact bv _ _))
 ·rintro k hI
  exact (by (repeat' (refine ka ?_ (by (try dsimp only); omega) ?_)); all_goals (first | exact mn zS | (repeat' (first | exact trivial | refine ⟨?_, ?_⟩ | exact .v | exact .any | refine .elem ?_ | exact bv _ _ | exact fy _ _ | exact eu _ _ | exact fg _ (by (try dsimp only); omega) | exact .box (by (try dsimp only); omega) | exact fj | exact dq | exact jj (pv _ _) | refine f9 ?_ ?_ | exact .arr (by (try dsimp only); omega) | exact .own (by (try dsimp only); omega) | exact .map (by (try dsimp only); omega) | exact e8 _ | refine ce ?_ ?_ | exact bv _ _))))
 rintro k hK
 dsimp only at hK ⊢
 refine yS fun _ K41 => ?_
 refine yR ?_
 refine aa rfl (ck rfl rfl rfl) ?_
 refine yN ?_
 dsimp only [St.put]
 refine K41 _ ?_
 refine yS fun _ K42 => ?_
 refine aq rfl (fun hc => ?_) (fun hc => ?_)
 ·replace hc := of_decide_eq_true hc
  obtain ⟨q, hq⟩ : ∃ q, x.well[k]? = some q := dl (by omega)
  have hbt := ujr x.found x.well k
  refine ax ?_
  refine K42 _ ?_
  refine yS fun _ K43 => ?_
  refine bf ?_
  refine yS fun _ K44 => ?_
  refine yR ?_
  refine aa rfl (bw rfl rfl rfl rfl (bu (by assumption)) (Enc.len _)) ?_
  refine yE rfl rfl rfl ?_
  try dsimp only [St.put]
  refine ae rfl (dx rfl ?_)
  try dsimp only [St.put]
  refine ae rfl (di rfl rfl rfl zG rfl rfl (by rfl) ?_)
  refine yN ?_
  dsimp only [St.put]
  refine K44 _ ?_
  refine gg (i := 16) rfl zG zC ?_
  dsimp only
  refine yS fun _ K45 => ?_
  refine yR ?_
  refine yM rfl rfl ?_
  refine yE rfl rfl rfl ?_
  try dsimp only [St.put]
  refine bk rfl (ze q rfl rfl zG trivial rfl (ugn _ _)) ?_
  refine yN ?_
  dsimp only [St.put]
  refine K45 _ ?_
  refine aq rfl (fun hc => ?_) (fun hc => ?_)
  ·have hin : q ∈ x.found := by
    rw [zq hnd2 hq] at hc
    exact of_decide_eq_true hc
   refine yS fun _ K46 => ?_
   refine yR ?_
   refine yM rfl rfl ?_
   refine yE rfl rfl rfl ?_
   try dsimp only [St.put]
   refine ae rfl (ef rfl rfl rfl (by decide) (by decide) zR (by decide) ?_)
   try dsimp only [St.put]
   refine ae rfl (jz ([q]) rfl rfl zG zE rfl rfl zA ?_ zA)
   refine yA rfl rfl ?_
   refine yN ?_
   dsimp only [St.put]
   refine K46 _ ?_
   refine yR ?_
   refine yM rfl rfl ?_
   refine yE rfl rfl rfl ?_
   try dsimp only [St.put]
   refine ae rfl (ujh q rfl rfl zG rfl (ugm hnd2 hq hin) ?_)
   refine yN ?_
   dsimp only [St.put]
   refine K43 _ ?_
   refine yR ?_
   refine aa rfl (br rfl rfl rfl (by omega)) ?_
   refine yM rfl rfl ?_
   refine yN ?_
   dsimp only [St.put]
   have e := ujq (F := x.found) hq
   first
   | (have hi : q ∈ x.found := hin
      rw [decide_eq_true hi, cond_true] at e
      simp only [← e]
      exact ⟨k + 1, by omega, by omega, ⟨⟨rfl, rfl⟩, zF, zB, zN, zX⟩⟩)
   | (have hi : q ∉ x.found := hout
      rw [decide_eq_false hi, cond_false, List.append_nil] at e
      simp only [← e]
      exact ⟨k + 1, by omega, by omega, ⟨⟨rfl, rfl⟩, zF, zB, zN, zX⟩⟩)
  have hout : q ∉ x.found := by
   rw [zq hnd2 hq] at hc
   exact of_decide_eq_false hc
  refine yR ?_
  refine yM rfl rfl ?_
  refine yE rfl rfl rfl ?_
  try dsimp only [St.put]
  refine ae rfl (x8 (q) rfl rfl rfl zG rfl (ugl hnd2 hq hout) ?_)
  refine yN ?_
  dsimp only [St.put]
  refine K43 _ ?_
  refine yR ?_
  refine aa rfl (br rfl rfl rfl (by omega)) ?_
  refine yM rfl rfl ?_
  refine yN ?_
  dsimp only [St.put]
  have e := ujq (F := x.found) hq
  first
  | (have hi : q ∈ x.found := hin
     rw [decide_eq_true hi, cond_true] at e
     simp only [← e]
     exact ⟨k + 1, by omega, by omega, ⟨⟨rfl, rfl⟩, zF, zB, zN, zX⟩⟩)
  | (have hi : q ∉ x.found := hout
     rw [decide_eq_false hi, cond_false, List.append_nil] at e
     simp only [← e]
     exact ⟨k + 1, by omega, by omega, ⟨⟨rfl, rfl⟩, zF, zB, zN, zX⟩⟩)
 replace hc := of_decide_eq_false hc
 obtain rfl : k = x.well.length := by omega
 rw [uty hp]
 refine c6 ?_
 refine K39 _ ?_
 refine yS fun _ K47 => ?_
 refine ua0 14 (lst (er p.text x)) rfl Wk.tok ?_
 refine yR ?_
 refine yM rfl rfl ?_
 try dsimp only [St.put]
 refine ae rfl (yc rfl rfl rfl (utg (er p.text x) hB (by omega) _ _) ?_)
 refine yA rfl rfl ?_
 refine yN ?_
 dsimp only [St.put]
 refine K47 _ ?_
 refine yS fun _ K48 => ?_
 refine yS fun _ K49 => ?_
 refine yR ?_
 refine yM rfl rfl ?_
 try dsimp only [St.put]
 refine ae rfl (ujd rfl rfl zG fun r β cl ks hnd hks0 hinj => ?_)
 refine yN ?_
 dsimp only [St.put]
 refine K49 _ ?_
 rw [hmw] at hks0
 rw [hmw]
 refine bf ?_
 refine cm 91 ?_
 refine zQ ?_
 refine dm (ai (ai (ai (ai G nx (rk Tryz.prog 41 (x.found.length + x.well.length) (ip (ie x.found x.well)) β cl)) (nx + 1 + 1) (.arr 0 0 41 3 (er p.text x).length (az (er p.text x)))) (nx + 1 + 1 + 1) (.raw 0 (.mapIter (some r) cl (j8 β ([] : List PlaceD)) cl))) (nx + 1 + 1 + 1 + 1) (.fact (.map (some r)) (.map nx))) zX ?_
 dsimp only
 refine dj (X := List PlaceD × Nat × Nat × Nat) (fun y => (∀ z ∈ y.1, z ∈ ks) ∧ y.1.Nodup) (fun y => xo ks y.1) (fun y => [(17, .own (nx + 1 + 1) y.2.2.1 (er p.text x ++ y.1).length), (18, .any)]) (fun y G' => (ai (ai (ai (ai G nx (rk Tryz.prog 41 ((x.found.length + x.well.length)) (ip ((ie x.found x.well))) β cl)) ((nx + 1 + 1)) (.arr y.2.2.1 y.2.2.2 41 3 ((er p.text x ++ y.1)).length (az ((er p.text x ++ y.1))))) ((nx + 1 + 1 + 1)) (.raw y.2.1 (.mapIter (some r) cl (j8 β y.1) cl))) ((nx + 1 + 1 + 1 + 1)) (.fact (.map (some r)) (.map nx)))) ([], 0, 0, 0) rfl ?_ ?_ ?_ ?_ ?_ ?_
 ·exact ⟨fun z hz => by simp at hz, List.nodup_nil⟩
 ·simp only [List.append_nil]
  exact zF
 ·simp only [List.append_nil]
  exact zX
 ·rintro ⟨done, wi, vl, wv⟩ hI
  exact (by (try dsimp only); repeat' (first | exact trivial | refine ⟨?_, ?_⟩ | exact .v | exact .any | refine .elem ?_ | exact bv _ _ | exact fy _ _ | exact eu _ _ | exact fg _ (by (try dsimp only); omega) | exact .box (by (try dsimp only); omega) | exact fj | exact dq | exact ual (pv _ _) | exact e8 _ | refine f9 ?_ ?_ | exact .arr (by (try dsimp only); omega) | exact .own (by (try dsimp only); omega) | exact .map (by (try dsimp only); omega) | exact e8 _ | refine ce ?_ ?_ | exact bv _ _))
 ·rintro ⟨done, wi, vl, wv⟩ hI
  exact (by (repeat' (refine ka ?_ (by (try dsimp only); omega) ?_)); all_goals (first | exact mn zS | (repeat' (first | exact trivial | refine ⟨?_, ?_⟩ | exact .v | exact .any | refine .elem ?_ | exact bv _ _ | exact fy _ _ | exact eu _ _ | exact fg _ (by (try dsimp only); omega) | exact .box (by (try dsimp only); omega) | exact fj | exact dq | exact ual (pv _ _) | exact e8 _ | refine f9 ?_ ?_ | exact .arr (by (try dsimp only); omega) | exact .own (by (try dsimp only); omega) | exact .map (by (try dsimp only); omega) | exact e8 _ | refine ce ?_ ?_ | exact bv _ _))))
 rintro ⟨done, wi, vl, wv⟩ hI8
 dsimp only at hI8 ⊢
 refine yS fun _ K50 => ?_
 refine yR ?_
 try dsimp only [St.put]
 refine ae rfl (uje (done := done) rfl rfl zG zG zG (hks0) (hinj) (hI8.1) (fun hend => ?_) (fun y c hym hyk hyd => ?_))
 ·have hdl := zp hp hI8.2 (fun q hq => onceM_ne.1 ((hks0 q).2 (hI8.1 q hq)))
  have hdk : ∀ q, q ∈ done ↔ ie x.found x.well q = true := fun q => ⟨fun hq => onceM_ne.1 ((hks0 q).2 (hI8.1 q hq)), fun hq => hend q ((hks0 q).1 (onceM_ne.2 hq))⟩
  have hpb := ugk hp ht (fun q hq => (hdk q).1 hq)
  refine yX rfl rfl rfl rfl ?_
  refine yN ?_
  dsimp only [St.put]
  refine K50 _ ?_
  refine yS fun _ K51 => ?_
  refine aq rfl (fun h => by cases h) (fun _ => ?_)
  refine c6 ?_
  refine K48 _ ?_
  refine yS fun _ K52 => ?_
  have hpb2 : ∀ y ∈ er p.text x ++ done, PBd9 y := fun y hy => by
   rcases List.mem_append.1 hy with hy | hy
   ·exact utz hp ht hy
   exact hpb y hy
  refine yR ?_
  refine yM rfl rfl ?_
  try dsimp only [St.put]
  refine ae rfl (ujc uev PBd9 n7 rfl rfl rfl rfl zG rfl rfl rfl (fun y hy => hy.plain) hpb2 (by first | (rw [List.length_append]; omega) | (simp only [List.nil_append]; omega)) (fun a b _ _ => uca a b _ _) ugi (fun ys hperm hsort => ?_))
  refine yN ?_
  dsimp only [St.put]
  have hlen := hperm.length_eq
  obtain rfl := uke hp hI8.2 hdk hperm hsort
  refine K52 _ ?_
  refine udn 17 (d7 p.text x) rfl zG rfl rfl hlen.symm ?_
  dsimp only
  refine udm [(0, none), (1, none), (2, none), (3, none), (4, none), (5, none), (6, none), (7, none), (10, none), (11, none), (12, none), (13, none), (14, none), (17, none), (18, none), (19, none), (20, none), (21, none)] (fun i => [23, 26, 29, 32].contains i) (fun i => [0, 1, 2, 3, 4, 5, 7, 10, 11, 12, 14, 17, 18, 19, 21].contains i) 15 (rl [8, 2, 5, 2, 5, 11]) [nB] (by kernel_rfl) (by kernel_rfl) ?_
  refine xM rfl rfl rfl rfl rfl ?_
  refine xM rfl rfl rfl rfl rfl ?_
  refine xM rfl rfl rfl rfl rfl ?_
  refine xM rfl rfl rfl rfl rfl ?_
  refine af rfl rfl rfl rfl (iy rfl rfl) ?_
  refine af rfl rfl rfl rfl (c7 rfl rfl) ?_
  try dsimp only [St.put]
  refine aw rfl rfl rfl rfl (ez rfl rfl zG (by simp) (by first | rfl | assumption)) ?_
  refine xM rfl rfl rfl rfl rfl ?_
  refine xM rfl rfl rfl rfl rfl ?_
  refine af rfl rfl rfl rfl (iy rfl rfl) ?_
  refine af rfl rfl rfl rfl (c7 rfl rfl) ?_
  try dsimp only [St.put]
  refine aw rfl rfl rfl rfl (ez rfl rfl zG (by simp) (by first | rfl | assumption)) ?_
  refine xM rfl rfl rfl rfl rfl ?_
  refine xM rfl rfl rfl rfl rfl ?_
  refine af rfl rfl rfl rfl (iy rfl rfl) ?_
  refine af rfl rfl rfl rfl (c7 rfl rfl) ?_
  try dsimp only [St.put]
  refine aw rfl rfl rfl rfl (ez rfl rfl zG (by simp) (by first | rfl | assumption)) ?_
  refine xM rfl rfl rfl rfl rfl ?_
  refine cw ⟨zD, ?_⟩
  dsimp only [St.put]
  refine ukp ws al bo (fh p.text x : Int) (d7 p.text x) (er p.text x) nB a1 a2 a3 _ rfl (by kernel_rfl) (by kernel_rfl) (by kernel_rfl) rfl rfl rfl rfl rfl rfl rfl rfl rfl rfl rfl rfl rfl zG zG zG zG d1 d2 d3 d4 d5 d6 hw ha hb ?_
  dsimp only
  refine ru [(24, none), (25, none)] 7 (rl [26, 7]) (by kernel_rfl) ?_
  refine af rfl rfl rfl rfl (iy rfl rfl) ?_
  refine af rfl rfl rfl rfl (c7 rfl rfl) ?_
  refine cw ⟨zD, ?_⟩
  refine qj [26] (by kernel_rfl) (by simp) ?_
  refine qi ?_ ?_
  ·try dsimp only [St.put]
   refine vr rfl rfl rfl rfl (l5 rfl rfl rfl zG (by constructor) rfl zO ?_)
   refine ru [(27, none), (28, none)] 4 (rl [29, 4]) (by kernel_rfl) ?_
   refine af rfl rfl rfl rfl (iy rfl rfl) ?_
   refine af rfl rfl rfl rfl (c7 rfl rfl) ?_
   refine cw ⟨zD, ?_⟩
   refine qj [29] (by kernel_rfl) (by simp) ?_
   refine qi ?_ ?_
   ·try dsimp only [St.put]
    refine vr rfl rfl rfl rfl (l5 rfl rfl rfl zG (by constructor) rfl zO ?_)
    refine ru [(30, none), (31, none)] 1 (rl [32, 1]) (by kernel_rfl) ?_
    refine af rfl rfl rfl rfl (iy rfl rfl) ?_
    refine af rfl rfl rfl rfl (c7 rfl rfl) ?_
    refine cw ⟨zD, ?_⟩
    refine qj [32] (by kernel_rfl) (by simp) ?_
    refine qi ?_ ?_
    ·try dsimp only [St.put]
     refine vr rfl rfl rfl rfl (l5 rfl rfl rfl zG (by constructor) rfl zO ?_)
     dsimp only [St.put]
     refine ua6 (by kernel_rfl) ?_
     refine ui5 rfl (.inl rfl) zN (ueo zG zG zG zG fun n o q1 q2 q3 q4 h => ?_)
     have hn := hlt n o h
     (try dsimp only)
     repeat (first | exact h | rw [ct (by omega)] | rw [ki (by omega)])
    exact rr
   exact rr
  exact rr
 have hz0 := ucf hym
 subst hz0
 obtain ⟨z, hz⟩ : ∃ z, z = y := ⟨_, rfl⟩
 subst hz
 have hIn : ∀ z ∈ ks, ∀ x ∈ done ++ [z], x ∈ ks := fun z hz x hx => by
  rcases List.mem_append.1 hx with hx | hx
  ·exact hI8.1 x hx
  rw [List.mem_singleton] at hx; exact hx ▸ hz
 have hIu : ∀ z, z ∉ done → (done ++ [z]).Nodup := fun z hz => List.nodup_append.2 ⟨hI8.2, by simp, fun a ha b hb => by
  rw [List.mem_singleton] at hb; subst hb; exact fun e => hz (e ▸ ha)⟩
 have hdl := zp hp hI8.2 (fun q hq => onceM_ne.1 ((hks0 q).2 (hI8.1 q hq)))
 refine yX rfl rfl rfl rfl ?_
 refine yN ?_
 dsimp only [St.put]
 refine K50 _ ?_
 refine yS fun _ K53 => ?_
 refine aq rfl (fun _ => ?_) (fun h => by cases h)
 refine ax ?_
 refine K53 _ ?_
 refine bf ?_
 refine yS fun _ K54 => ?_
 refine yR ?_
 try dsimp only [St.put]
 refine bk rfl (ue8 (fx := nx + 1 + 1 + 1 + 1) (n := nx) rfl rfl zG trivial zG zG trivial (by assumption)) ?_
 refine yX rfl rfl rfl rfl ?_
 try dsimp only [St.put]
 refine ae rfl (dx rfl ?_)
 try dsimp only [St.put]
 refine ae rfl (di rfl rfl rfl zG rfl rfl (by rfl) ?_)
 refine yN ?_
 dsimp only [St.put]
 refine K54 _ ?_
 refine gg (i := 18) rfl zG zC ?_
 dsimp only
 refine yR ?_
 refine yM rfl rfl ?_
 try dsimp only [St.put]
 refine bk rfl (dz rfl rfl rfl) ?_
 try dsimp only [St.put]
 refine ae rfl (ef rfl rfl rfl (by decide) (by decide) zR (by decide) ?_)
 try dsimp only [St.put]
 refine ae rfl (rm (xs := er p.text x ++ done) [z] rfl rfl zG rfl rfl rfl rfl zA zA (fun v3 => ?_))
 refine yA rfl rfl ?_
 refine yN ?_
 dsimp only [St.put]
 simp only [List.append_assoc]
 exact ⟨(done ++ [z], wi + 1, v3, wv), uho hyk hyd, ⟨hIn z hyk, hIu z hyd⟩, ⟨⟨rfl, rfl⟩, zF, zB, zN, zX⟩⟩
end Go.Proofs.YtgffhbbcpgdjjaaGreatDoor
namespace Go.AB
open Go Go.RowKit
open Go.AB.Enc (cells)
open Go.PB (ay aj PlaceD bg bi bh bn ak ah cr bq dr dt)
end Go.AB
namespace Go.Proofs.YtgffhbbcpgdjjaaGreatDoor
set_option maxRecDepth 10000
open Go Go.RowKit Go.AB
open Go.AB.Enc (cells)
open Go.PB (ay aj PlaceD bg bi bh bn ak ah cr bq dr dt)
theorem uti (l : List Int) (he : l = []) : Pure Tryz.prog 72 [lst l] (lst l) := by
 subst he
 refine dg Tryz.func72 rfl (fun m => (bv _ _)) fun G nx => ?_
 simp only [Tryz.ntmps72, List.length_cons, List.length_nil, Nat.reduceAdd, Nat.reduceSub]
 refine cb fun hlt => ?_
 dsimp only at hlt
 refine yS fun _ K1 => ?_
 refine yR ?_
 refine yA rfl rfl ?_
 refine yN ?_
 dsimp only [St.put]
 refine K1 _ ?_
 refine yS fun _ K2 => ?_
 refine yS fun _ K3 => ?_
 refine yR ?_
 refine yM rfl rfl ?_
 refine ae rfl (ujg rfl rfl fun b _ => ?_)
 refine yN ?_
 dsimp only [St.put]
 refine K3 _ ?_
 refine aq rfl (fun hc => ?_) (fun hc => ?_)
 ·try replace hc := of_decide_eq_true hc
  refine yS fun _ K4 => ?_
  refine yR ?_
  refine yA rfl rfl ?_
  refine yN ?_
  dsimp only [St.put]
  refine K4 _ ?_
  refine ar ?_
  refine qd rfl (ey (by constructor)) zN zS ?_
  exact zW
 try replace hc := of_decide_eq_false hc
 refine ax ?_
 refine K2 _ ?_
 refine yS fun _ K5 => ?_
 refine yR ?_
 try dsimp only [St.put]
 refine ae rfl (yd rfl ?_)
 refine yM rfl rfl ?_
 try dsimp only [St.put]
 refine ae rfl (uau rfl rfl (.inl rfl) rfl (show 1 ≤ 1 by decide) (fun r hr => by cases hr) (by simp) (by simp) ?_)
 refine yA rfl rfl ?_
 refine yN ?_
 dsimp only [St.put]
 refine K5 _ ?_
 refine ar ?_
 refine qd rfl (ey (by constructor)) zN zS ?_
 exact zW
theorem ude (l : List Int) (hne : l ≠ []) (hl : l.length ≤ 1000) (G : Nat → Option GObj) (nx : Nat) : PC Tryz.prog 72 [lst l] G nx fun r G' nx' => r = .own nx 0 l.length ∧ G' = ai G nx (.arr 0 0 3 1 l.length (az l)) ∧ nx' = nx + 1 := by
 refine jg (ai G nx (.arr 0 0 3 1 l.length (az l))) (nx + 1) Tryz.func72 rfl (.own (Nat.lt_succ_self _)) zN (fun hlt => (by (repeat' (refine ka ?_ (by (try dsimp only); omega) ?_)); all_goals (first | exact mn zS | (repeat' (first | exact trivial | refine ⟨?_, ?_⟩ | exact .v | exact .any | refine .elem ?_ | exact bv _ _ | exact fy _ _ | exact eu _ _ | exact fg _ (by (try dsimp only); omega) | exact .box (by (try dsimp only); omega) | exact fj | exact dq | exact e8 _ | refine f9 ?_ ?_ | exact .arr (by (try dsimp only); omega) | exact .own (by (try dsimp only); omega) | exact .map (by (try dsimp only); omega) | exact e8 _ | refine ce ?_ ?_ | exact bv _ _))))) ?_
 simp only [Tryz.ntmps72, List.length_cons, List.length_nil, Nat.reduceAdd, Nat.reduceSub]
 refine cb fun hlt => ?_
 dsimp only at hlt
 refine yS fun _ K1 => ?_
 refine yR ?_
 refine yA rfl rfl ?_
 refine yN ?_
 dsimp only [St.put]
 refine K1 _ ?_
 refine yS fun _ K2 => ?_
 refine yS fun _ K3 => ?_
 refine yR ?_
 refine yM rfl rfl ?_
 refine ae rfl (ujf (fun e => hne (by simpa using e)) rfl rfl ?_)
 refine yN ?_
 dsimp only [St.put]
 refine K3 _ ?_
 refine aq rfl (fun hc => ?_) (fun hc => ?_)
 ·try replace hc := of_decide_eq_true hc
  refine yS fun _ K4 => ?_
  refine yR ?_
  refine yA rfl rfl ?_
  refine yN ?_
  dsimp only [St.put]
  refine K4 _ ?_
  refine ar ?_
  exact absurd hc (by decide)
 try replace hc := of_decide_eq_false hc
 refine ax ?_
 refine K2 _ ?_
 refine yS fun _ K5 => ?_
 refine yR ?_
 try dsimp only [St.put]
 refine ae rfl (yd rfl ?_)
 refine yM rfl rfl ?_
 try dsimp only [St.put]
 refine ae rfl (ujj l rfl rfl (.inl rfl) rfl rfl hne (by decide) (by omega) (by omega) ?_)
 refine yA rfl rfl ?_
 refine yN ?_
 dsimp only [St.put]
 refine K5 _ ?_
 refine ar ?_
 refine bj rfl (by constructor) zN zS ?_
 rfl
set_option maxHeartbeats 1000000 in
theorem upj (p : ah) (R C : Nat → Int) (j : Nat) (x : ak) (n : Int) (h : et p) (h0 : 0 < co p) (hx : p.pages[j]? = some x) (hn : -1000000 ≤ n ∧ n ≤ 1000000) (hR : ∀ i, -1000000 ≤ R i ∧ R i ≤ 1000000) : Pure Tryz.prog 52 [val (ib p R C), .v (.int .i64 (j : Int)), .v (.int .i64 n)] (val (ib p ((bx p).lessR R j n) (fk C j))) := by
 refine dg Tryz.func52 rfl (fun m => (eu _ _)) fun G nx => ?_
 simp only [Tryz.ntmps52, List.length_cons, List.length_nil, Nat.reduceAdd, Nat.reduceSub]
 refine cb fun hlt => ?_
 dsimp only at hlt
 have hjl := (List.getElem?_eq_some_iff.1 hx).1
 have hrx := zi hx
 have hn1 := h.nf
 have hn2 := h.ns
 have hnp := h.np
 have hnr : co p = p.firsts.length + p.seconds.length := rfl
 have hrl := ub5 p x
 have hl1 := jq (co p) R
 have hl2 := jq p.pages.length C
 have hne2 : cc p.pages.length C ≠ [] := fun e => by rw [e] at hl2; simp at hl2; omega
 have hne1 : cc (co p) R ≠ [] := fun e => by rw [e] at hl1; simp at hl1; omega
 refine yS fun _ K1 => ?_
 refine yR ?_
 try dsimp only [St.put]
 refine ae rfl (uc9 rfl rfl ?_)
 try dsimp only [St.put]
 refine ae rfl (dx rfl ?_)
 refine yN ?_
 dsimp only [St.put]
 refine K1 _ ?_
 refine yS fun _ K2 => ?_
 refine fw [(0, none), (1, none), (3, none), (4, none), (2, none), (6, none), (5, none), (7, none), (8, none), (9, none)] (fun i => [5, 7, 9].contains i) (fun i => [2, 5, 7, 9].contains i) (fun i => [0, 3, 6, 8].contains i) [nx] (by kernel_rfl) (by kernel_rfl) ?_
 refine af rfl rfl rfl rfl (c7 rfl rfl) ?_
 try dsimp only [St.put]
 refine aw rfl rfl rfl rfl (ez rfl rfl zG (by simp) (by first | rfl | assumption)) ?_
 refine af rfl rfl rfl rfl (c7 rfl rfl) ?_
 try dsimp only [St.put]
 refine aw rfl rfl rfl rfl (ez rfl rfl zG (by simp) (by first | rfl | assumption)) ?_
 refine gu ?_
 try dsimp only [St.put]
 refine ij rfl rfl rfl (yc rfl rfl rfl (ude (cc (co p) R) hne1 (by omega) _ _) ⟨zD, ?_⟩)
 refine ec rfl rfl rfl rfl (c7 rfl rfl) ?_
 try dsimp only [St.put]
 refine f4 rfl rfl rfl rfl (yc rfl rfl rfl (ude (cc p.pages.length C) hne2 (by omega) _ _) ?_)
 try dsimp only [St.put]
 refine f4 rfl rfl rfl rfl (l5 rfl rfl rfl zG (by constructor) rfl zO ?_)
 refine ec rfl rfl rfl rfl (c7 rfl rfl) ?_
 try dsimp only [St.put]
 refine f4 rfl rfl rfl rfl (l5 rfl rfl rfl zG (by constructor) rfl (by show 1 < 3; decide) ?_)
 refine gt ?_
 dsimp only [St.put]
 simp only [hl1, hl2]
 refine K2 _ ?_
 refine yS fun _ K3 => ?_
 refine yS fun _ K4 => ?_
 refine yR ?_
 refine aa rfl (c7 rfl rfl) ?_
 try dsimp only [St.put]
 refine bk rfl (ez rfl rfl zG trivial (by first | rfl | assumption)) ?_
 refine yM rfl rfl ?_
 refine aa rfl (bw rfl rfl rfl rfl (bu (by assumption)) (Enc.len _)) ?_
 refine yL rfl rfl rfl ?_
 refine aa rfl (bp rfl rfl (List.length_map _)) ?_
 refine yM rfl rfl ?_
 refine yN ?_
 dsimp only [St.put]
 refine K4 _ ?_
 refine bf ?_
 refine cm 24 ?_
 refine zQ ?_
 refine dm ((ai (ai (ai (ai G nx (.box 2 [.own (nx + 1 + 1) 0 (co p), .own (nx + 1 + 1 + 1) 0 p.pages.length, lst (p.pages.map (eg p))])) (nx + 1) (.box 0 [.list [] .nil, .list [] .nil, .list [] .nil])) (nx + 1 + 1) (.arr 0 0 3 1 (co p) (az (cc (co p) (R))))) (nx + 1 + 1 + 1) (.arr 0 0 3 1 p.pages.length (az (cc p.pages.length C))))) zX ?_
 dsimp only
 refine dj (X := Nat) (fun k => k ≤ (eg p x).length ∧ ∀ i, -1000000 - k * 1000000 ≤ mz R n ((eg p x).take k) i ∧ mz R n ((eg p x).take k) i ≤ 1000000 + k * 1000000) (fun k => (eg p x).length - k) (fun k => [(8, .any), (23, .v (.int .i64 (k : Int)))]) (fun k G' => (ai (ai (ai (ai G nx (.box 2 [.own (nx + 1 + 1) 0 (co p), .own (nx + 1 + 1 + 1) 0 p.pages.length, lst (p.pages.map (eg p))])) (nx + 1) (.box 0 [.list [] .nil, .list [] .nil, .list [] .nil])) (nx + 1 + 1) (.arr 0 k 3 1 (co p) (az (cc (co p) ((mz R n ((eg p x).take k))))))) (nx + 1 + 1 + 1) (.arr 0 0 3 1 p.pages.length (az (cc p.pages.length C))))) 0 rfl ?_ ?_ ?_ ?_ ?_ ?_
 ·exact ⟨Nat.zero_le _, fun i => by have := hR i; simp only [List.take_zero, umv]; omega⟩
 ·exact zF
 ·exact zX
 ·rintro k hI
  exact zL
 ·rintro k hI
  exact zH
 rintro k hI
 dsimp only at hI ⊢
 refine yS fun _ K5 => ?_
 refine yR ?_
 refine aa rfl (ck rfl rfl rfl) ?_
 refine yN ?_
 dsimp only [St.put]
 refine K5 _ ?_
 refine yS fun _ K6 => ?_
 refine aq rfl (fun hc => ?_) (fun hc => ?_)
 ·replace hc := of_decide_eq_true hc
  obtain ⟨zn, hz, hz6⟩ := ub4 h hx (k := k) (by omega)
  have hst := umu (R := R) (n := n) hz
  rw [Int.toNat_natCast] at hst
  have hI2 : ∀ i, -1000000 - ((k + 1 : Nat) : Int) * 1000000 ≤ mz R n ((eg p x).take (k + 1)) i ∧ mz R n ((eg p x).take (k + 1)) i ≤ 1000000 + ((k + 1 : Nat) : Int) * 1000000 := fun i => by
   rw [hst]
   have h1 := hI.2 i
   have h2 := hI.2 zn
   dsimp only
   cases decide (i = zn)
   ·rw [cond_false]
    omega
   rw [cond_true]
   omega
  have hI3 := hI.2 zn
  obtain ⟨S, hS⟩ : ∃ S, mz R n ((eg p x).take k) = S := ⟨_, rfl⟩
  rw [hS] at hst hI3 ⊢
  have hset := y4 S (S zn - n) hz6
  rw [← hst] at hset
  refine ax ?_
  refine K6 _ ?_
  refine yS fun _ K7 => ?_
  refine bf ?_
  refine yS fun _ K8 => ?_
  refine yR ?_
  refine aa rfl (bw rfl rfl rfl rfl (bu (by assumption)) (Enc.len _)) ?_
  refine yL rfl rfl rfl ?_
  refine yA rfl rfl ?_
  refine yN ?_
  dsimp only [St.put]
  refine K8 _ ?_
  refine yR ?_
  refine aa rfl (c7 rfl rfl) ?_
  try dsimp only [St.put]
  refine bk rfl (ez rfl rfl zG trivial (by first | rfl | assumption)) ?_
  refine yM rfl rfl ?_
  try dsimp only [St.put]
  refine aa rfl (iq rfl rfl zG rfl rfl hz6) ?_
  try dsimp only [St.put]
  refine bk rfl (gy rfl rfl zG (by simp) (uil (by rw [Nat.mul_one]; exact lv S hz6))) ?_
  refine yM rfl rfl ?_
  refine aa rfl (gr rfl rfl rfl (by omega)) ?_
  try dsimp only [St.put]
  refine aa rfl (iq rfl rfl zG rfl rfl hz6) ?_
  try dsimp only [St.put]
  refine ae rfl (qe (k := zn) (j := 0) (z := S zn) (z' := S zn - n) rfl rfl rfl zG rfl rfl (lv S hz6) rfl (by decide) rfl ?_)
  refine yN ?_
  dsimp only [St.put]
  refine K7 _ ?_
  refine yR ?_
  refine aa rfl (br rfl rfl rfl (by omega)) ?_
  refine yM rfl rfl ?_
  refine yN ?_
  dsimp only [St.put]
  rw [hset]
  exact ⟨k + 1, by omega, ⟨by omega, hI2⟩, ⟨⟨rfl, rfl⟩, zF, zB, zN, zX⟩⟩
 replace hc := of_decide_eq_false hc
 rw [ia (show (eg p x).length ≤ k by omega), ← ura h hx]
 refine c6 ?_
 refine K3 _ ?_
 refine yS fun _ K9 => ?_
 refine yR ?_
 refine aa rfl (c7 rfl rfl) ?_
 try dsimp only [St.put]
 refine bk rfl (ez rfl rfl zG trivial (by first | rfl | assumption)) ?_
 refine yM rfl rfl ?_
 try dsimp only [St.put]
 refine aa rfl (iq rfl rfl zG rfl rfl hjl) ?_
 try dsimp only [St.put]
 refine ae rfl (qe (k := j) (j := 0) (z := C j) (z' := 0) rfl rfl rfl zG rfl rfl (lv C hjl) rfl (by decide) rfl ?_)
 refine yN ?_
 dsimp only [St.put]
 rw [show (cc p.pages.length C).set j 0 = cc p.pages.length (fk C j) from y4 C 0 hjl]
 refine K9 _ ?_
 refine yS fun _ K10 => ?_
 refine vp nx 0 (cc (co p) ((bx p).lessR R j n)) zG rfl zG (by omega) rfl rfl (jq _ _).symm ?_
 refine vp nx 1 (cc p.pages.length (fk C j)) zG rfl zG (by omega) rfl rfl (jq _ _).symm ?_
 dsimp only [List.set_cons_zero, List.set_cons_succ]
 refine yR ?_
 try dsimp only [St.put]
 refine bk rfl (jf rfl rfl zG trivial (by rfl)) ?_
 try dsimp only [St.put]
 refine ae rfl (di rfl rfl rfl zG rfl rfl (by rfl) ?_)
 refine yN ?_
 dsimp only [St.put]
 refine K10 _ ?_
 refine ar ?_
 refine qd rfl (ky rfl zG (by rfl) zC rfl) zN zS ?_
 exact zW
set_option maxHeartbeats 1000000 in
theorem upk (p : ah) (R C : Nat → Int) (j : Nat) (x : ak) (n : Int) (h : et p) (h0 : co p = 0) (hx : p.pages[j]? = some x) (hn : -1000000 ≤ n ∧ n ≤ 1000000) (hR : ∀ i, -1000000 ≤ R i ∧ R i ≤ 1000000) : Pure Tryz.prog 52 [val (ib p R C), .v (.int .i64 (j : Int)), .v (.int .i64 n)] (val (ib p ((bx p).lessR R j n) (fk C j))) := by
 refine dg Tryz.func52 rfl (fun m => (eu _ _)) fun G nx => ?_
 simp only [Tryz.ntmps52, List.length_cons, List.length_nil, Nat.reduceAdd, Nat.reduceSub]
 refine cb fun hlt => ?_
 dsimp only at hlt
 have hjl := (List.getElem?_eq_some_iff.1 hx).1
 have hrx := zi hx
 have hn1 := h.nf
 have hn2 := h.ns
 have hnp := h.np
 have hnr : co p = p.firsts.length + p.seconds.length := rfl
 have hrl := ub5 p x
 have hl1 := jq (co p) R
 have hl2 := jq p.pages.length C
 have hne2 : cc p.pages.length C ≠ [] := fun e => by rw [e] at hl2; simp at hl2; omega
 have he1 : cc (co p) R = [] := by rw [h0]; rfl
 refine yS fun _ K1 => ?_
 refine yR ?_
 try dsimp only [St.put]
 refine ae rfl (uc9 rfl rfl ?_)
 try dsimp only [St.put]
 refine ae rfl (dx rfl ?_)
 refine yN ?_
 dsimp only [St.put]
 refine K1 _ ?_
 refine yS fun _ K2 => ?_
 refine fw [(0, none), (1, none), (3, none), (4, none), (2, none), (6, none), (5, none), (7, none), (8, none), (9, none)] (fun i => [5, 7, 9].contains i) (fun i => [2, 5, 7, 9].contains i) (fun i => [0, 3, 6, 8].contains i) [nx] (by kernel_rfl) (by kernel_rfl) ?_
 refine af rfl rfl rfl rfl (c7 rfl rfl) ?_
 try dsimp only [St.put]
 refine aw rfl rfl rfl rfl (ez rfl rfl zG (by simp) (by first | rfl | assumption)) ?_
 refine af rfl rfl rfl rfl (c7 rfl rfl) ?_
 try dsimp only [St.put]
 refine aw rfl rfl rfl rfl (ez rfl rfl zG (by simp) (by first | rfl | assumption)) ?_
 refine gu ?_
 try dsimp only [St.put]
 refine ij rfl rfl rfl (ba rfl rfl rfl (uti (cc (co p) R) he1) ⟨zD, ?_⟩)
 refine ec rfl rfl rfl rfl (c7 rfl rfl) ?_
 try dsimp only [St.put]
 refine f4 rfl rfl rfl rfl (yc rfl rfl rfl (ude (cc p.pages.length C) hne2 (by omega) _ _) ?_)
 try dsimp only [St.put]
 refine f4 rfl rfl rfl rfl (l5 rfl rfl rfl zG (by constructor) rfl zO ?_)
 refine ec rfl rfl rfl rfl (c7 rfl rfl) ?_
 try dsimp only [St.put]
 refine f4 rfl rfl rfl rfl (l5 rfl rfl rfl zG (by constructor) rfl (by show 1 < 3; decide) ?_)
 refine gt ?_
 dsimp only [St.put]
 simp only [hl1, hl2]
 refine K2 _ ?_
 refine yS fun _ K3 => ?_
 refine yS fun _ K4 => ?_
 refine yR ?_
 refine aa rfl (c7 rfl rfl) ?_
 try dsimp only [St.put]
 refine bk rfl (ez rfl rfl zG trivial (by first | rfl | assumption)) ?_
 refine yM rfl rfl ?_
 refine aa rfl (bw rfl rfl rfl rfl (bu (by assumption)) (Enc.len _)) ?_
 refine yL rfl rfl rfl ?_
 refine aa rfl (bp rfl rfl (List.length_map _)) ?_
 refine yM rfl rfl ?_
 refine yN ?_
 dsimp only [St.put]
 refine K4 _ ?_
 refine bf ?_
 refine cm 24 ?_
 refine zQ ?_
 refine dj (X := Nat) (fun k => k ≤ (eg p x).length) (fun k => (eg p x).length - k) (fun k => [(8, .any), (23, .v (.int .i64 (k : Int)))]) (fun k G' => G') 0 rfl ?_ ?_ (fun _ _ h => h) ?_ ?_ ?_
 ·exact Nat.zero_le _
 ·exact zF
 ·rintro k hI
  exact zL
 ·exact fun _ _ _ _ h => .inl h
 rintro k hI
 dsimp only at hI ⊢
 refine yS fun _ K5 => ?_
 refine yR ?_
 refine aa rfl (ck rfl rfl rfl) ?_
 refine yN ?_
 dsimp only [St.put]
 refine K5 _ ?_
 refine yS fun _ K6 => ?_
 refine aq rfl (fun hc => ?_) (fun hc => ?_)
 ·replace hc := of_decide_eq_true hc
  obtain ⟨zn, hz, hz6⟩ := ub4 h hx (k := k) (by omega)
  omega
 replace hc := of_decide_eq_false hc
 refine c6 ?_
 refine K3 _ ?_
 refine yS fun _ K7 => ?_
 refine yR ?_
 refine aa rfl (c7 rfl rfl) ?_
 try dsimp only [St.put]
 refine bk rfl (ez rfl rfl zG trivial (by first | rfl | assumption)) ?_
 refine yM rfl rfl ?_
 try dsimp only [St.put]
 refine aa rfl (iq rfl rfl zG rfl rfl hjl) ?_
 try dsimp only [St.put]
 refine ae rfl (qe (k := j) (j := 0) (z := C j) (z' := 0) rfl rfl rfl zG rfl rfl (lv C hjl) rfl (by decide) rfl ?_)
 refine yN ?_
 dsimp only [St.put]
 rw [show (cc p.pages.length C).set j 0 = cc p.pages.length (fk C j) from y4 C 0 hjl]
 refine K7 _ ?_
 refine yS fun _ K8 => ?_
 refine vp nx 1 (cc p.pages.length (fk C j)) zG rfl zG (by omega) rfl rfl (jq _ _).symm ?_
 dsimp only [List.set_cons_zero, List.set_cons_succ]
 rw [show cc (co p) R = cc (co p) ((bx p).lessR R j n) by rw [h0]; rfl]
 refine yR ?_
 try dsimp only [St.put]
 refine bk rfl (jf rfl rfl zG trivial (by rfl)) ?_
 try dsimp only [St.put]
 refine ae rfl (di rfl rfl rfl zG rfl rfl (by rfl) ?_)
 refine yN ?_
 dsimp only [St.put]
 refine K8 _ ?_
 refine ar ?_
 refine qd rfl (ky rfl zG (by rfl) zC rfl) zN zS ?_
 exact zW
theorem ub9 (p : ah) (R C : Nat → Int) (j : Nat) (x : ak) (n : Int) (h : et p) (hx : p.pages[j]? = some x) (hn : -1000000 ≤ n ∧ n ≤ 1000000) (hR : ∀ i, -1000000 ≤ R i ∧ R i ≤ 1000000) : Pure Tryz.prog 52 [val (ib p R C), .v (.int .i64 (j : Int)), .v (.int .i64 n)] (val (ib p ((bx p).lessR R j n) (fk C j))) := by
 by_cases h0 : co p = 0
 ·exact upk p R C j x n h h0 hx hn hR
 exact upj p R C j x n h (by omega) hx hn hR
end Go.Proofs.YtgffhbbcpgdjjaaGreatDoor
namespace Go.AB
open Go Go.RowKit
open Go.AB.Enc (cells)
def gd (n : Nat) (F : GObj) (P : Program) (f : FuncId) (args : List C) (r : C) : Prop := ∀ G nx, G n = some F → n < nx → PC P f args G nx fun r' G' nx' => r' = r ∧ G' = G ∧ nx' = nx
theorem fa {n : Nat} {F : GObj} {P : Program} {o : Oper} {st : St} {f : FuncId} [Fun P f] {fv : Operand} {args : List Operand} {ats : Array TypeId} {caps al : List C} {K : St → Prop} {r : C} (ho : o.op = .call { callee := .value fv, args := args.toArray, argTypes := ats }) (hf : evC st fv = .fn (.func f) caps) (has : args.map (evC st) ++ caps = al)
  (hp : gd n F P f al r) (hG : st.G n = some F) (hn : n < st.nx) (h : K (st.put o.dst r)) : EStep P o st K := uji ho hf has (hp _ _ hG hn) h
theorem ug3 {P : Program} {o : Oper} {st : St} {t : TypeId} {x i : Operand} {m j : Nat} {v : Value} {cs : List C} {d : C} {ds : List C} {e : TypeId} {ik : IntKind} {n : Int} {k sz : Nat} {ag : Bool} [ArrT P t m e] [Ty P e ag sz] (ho : o.op = .indexAddr t x i) (hx : evC st x = .v v) (hG : st.G j = some (.fact v (.elem cs))) (hi : evC st i = .v (.int ik n)) (hn : n = (k : Int)) (hk : k < m) (hd : cs.drop (k * sz) = d :: ds) : NStep P o st (.elem (d :: ds)) := fun E w a hs => by
 subst hn
 have e1 := (hi ▸ hs.ev i).v_inv
 have e0 := (hx ▸ hs.ev x).v_inv
 obtain ⟨b, off, us, hv, h1, h2, h3, h4, _⟩ := (hs.g.obj j _ hG).2.elem_inv
 refine ⟨.pointer (some ⟨b, off + k * sz, none⟩), hd ▸ R.elem_drop h1 h2 h3 h4 (k * sz) (by rw [hd]; simp), fun w' => ?_⟩
 have q1 := ArrT.spec (P := P) (t := t) (n := m) (e := e)
 have q2 := Ty.size (P := P) (w := w') (t := e) (ag := ag) (n := sz)
 have q3 : (k : Int) < (m : Int) := by omega
 simp [execOp, ho, Instr.indexAt, Instr.sureAddr, e0, hv, e1, asIntOf, run_underlying q1, q2, q3, rt]
 intro h; omega
end Go.AB
namespace Go.AB
open Go Go.RowKit
open Go.AB.Enc (cells)
open Go.PB (ay aj PlaceD bg bi bh bn ak ah cr bq dr dt)
/-- the readers that have been looked at -/
def iv (p : ah) : Nat → List bn
 | 0 => []
 | 1 => p.firsts
 | _ => p.firsts ++ p.seconds
theorem unl {p : ah} : ∀ {k : Nat}, k < 2 → iv p (k + 1) = iv p k ++ cy p (decide (k = 1))
 | 0, _ => rfl
 | 1, _ => rfl
 | k + 2, h => by omega
def okR (l : List bn) : Prop := l.all io = true ∧ (l.map (·.id)).Nodup
theorem uqa {l : List bn} {r : bn} (h : okR l) (h1 : io r = true) (h2 : r.id ∉ l.map (·.id)) : okR (l ++ [r]) := by
 refine ⟨by rw [List.all_append, h.1]; simp [h1], ?_⟩
 rw [List.map_append, List.nodup_append]
 refine ⟨h.2, by simp, fun a ha b hb e => ?_⟩
 simp only [List.map_cons, List.map_nil, List.mem_singleton] at hb
 subst hb; subst e
 exact h2 ha
theorem unk {p : ah} : ∀ {k i : Nat}, k < 2 → (iv p k ++ (cy p (decide (k = 1))).take i) <+: (p.firsts ++ p.seconds)
 | 0, i, _ => by
  show [] ++ p.firsts.take i <+: p.firsts ++ p.seconds
  rw [List.nil_append]
  exact (List.take_prefix i p.firsts).trans (List.prefix_append _ _)
 | 1, i, _ => (List.prefix_append_right_inj p.firsts).2 (List.take_prefix i p.seconds)
 | k + 2, _, h => by omega
theorem uor {p : ah} {k i : Nat} {r : bn} (hk : k < 2) (hr : (cy p (decide (k = 1)))[i]? = some r) (hb : io r = false ∨ r.id ∈ (iv p k ++ (cy p (decide (k = 1))).take i).map (·.id)) : gz p = false := by
 have hpre := unk (p := p) (k := k) (i := i + 1) hk
 rw [List.take_add_one, hr, Option.toList_some, ← List.append_assoc] at hpre
 unfold gz kz
 rcases hb with h | h
 ·have : (p.firsts ++ p.seconds).all io = false := List.all_eq_false.2 ⟨r, hpre.subset (by simp), by rw [h]; simp⟩
  rw [this]; simp
 have : ¬ ((p.firsts ++ p.seconds).map (·.id)).Nodup := fun hn => by
  have h2 := hn.sublist (List.Sublist.map (·.id) hpre.sublist)
  rw [List.map_append, List.nodup_append] at h2
  exact h2.2.2 _ h r.id (by simp) rfl
 rw [decide_eq_false this]; simp
theorem uq1 {p : ah} {b : Bool} (h : ¬ (cy p b).length ≤ 3) : gz p = false := by
 unfold gz kz
 cases b
 ·rw [decide_eq_false (show ¬ p.firsts.length ≤ 3 from h)]; simp
 rw [decide_eq_false (show ¬ p.seconds.length ≤ 3 from h)]; simp
theorem upe {p : ah} (h : ¬ p.pages.length ≤ 8) : gz p = false := by
 unfold gz
 rw [decide_eq_false h]; simp
theorem urx {l : List bn} (r : bn) : lx (jh (l.map (·.id))) r.id (.v (.bool true)) = jh ((l ++ [r]).map (·.id)) := by
 funext x
 unfold lx jh
 rw [List.map_append]
 by_cases hx : x = r.id
 ·simp [hx]
 simp [hx]
/-- a side of a page is as it may be -/
def wl (p : ah) (x : ak) (b : Bool) : Bool := inB (cn b x) (-1) (((cy p b).length : Int) - 1) && i6 p.text x (cn b x) (d8 b x)
def tj (p : ah) (last : Int) (x : ak) : Bool := decide (last < x.fr) && decide (x.fr ≤ x.to) && decide (x.to < (ox p.text : Int))
def r6 (p : ah) (last : Int) (x : ak) : Nat → Bool
 | 0 => tj p last x
 | k + 1 => r6 p last x k && wl p x (decide (k = 1))
theorem um8 (p : ah) (last : Int) (x : ak) : r6 p last x 2 = n5 p last x := by
 show ((tj p last x && wl p x false) && wl p x true) = _
 unfold tj wl n5
 cases decide (last < x.fr) <;> cases decide (x.fr ≤ x.to) <;> cases decide (x.to < (ox p.text : Int)) <;> simp [cy, cn, d8, Bool.and_assoc]
/-- where proofs are opened -/
def k7 (p : ah) : C := bif decide (dc p = 0) then .elem [lst p.text, lst p.firsts, lst p.seconds, lst p.pages, lst (p.pages.map fun x => (fh p.text x : Int)), lst (p.pages.map (d7 p.text)), lst (p.pages.map (er p.text))] else .v (.pointer none)
theorem ugr (m : Nat) (p : ah) : C.low m (k7 p) := by
 unfold k7
 cases decide (dc p = 0)
 ·exact .v
 refine .elem fun c hc => ?_
 simp only [List.mem_cons, List.not_mem_nil, or_false] at hc
 rcases hc with rfl | rfl | rfl | rfl | rfl | rfl | rfl <;> exact bv m _
theorem zr {p : ah} (h : dc p = 0) : k7 p = .elem [lst p.text, lst p.firsts, lst p.seconds, lst p.pages, lst (p.pages.map fun x => (fh p.text x : Int)), lst (p.pages.map (d7 p.text)), lst (p.pages.map (er p.text))] := by unfold k7; rw [decide_eq_true h]; rfl
theorem xg {p : ah} (h : dc p ≠ 0) : k7 p = .v (.pointer none) := by unfold k7; rw [decide_eq_false h]; rfl
theorem ubk {α : Type} {l : List α} {k : Nat} {x : α} (h : l[k]? = some x) : l.take (k + 1) = l.take k ++ [x] := by rw [List.take_add_one, h]; rfl
theorem nil_len {α : Type} {l : List α} : l = [] ↔ (l.length : Int) = 0 := by
 constructor
 ·rintro rfl; rfl
 intro h; exact List.eq_nil_of_length_eq_zero (by omega)
theorem jy {t : aj} {x : ak} {l : List PlaceD} {i : Nat} {q : PlaceD} (h : l[i]? = some q) : kh t x l i = (gj t q && dw t x q && (decide (i = 0) || match l[i - 1]? with | none => true | some a => pd a q)) := by unfold kh; rw [h]; rfl
theorem utq {p : ah} (h : ed p.text = false) : dc p = 10 := by unfold dc; rw [h]; rfl
theorem uax {p : ah} (h : ed p.text = true) (hp : gz p = false) : dc p = 90 := by unfold dc; rw [h, hp]; rfl
theorem utr {p : ah} (h : ed p.text = true) (hp : gz p = true) : dc p = 0 := by unfold dc; rw [h, hp]; rfl
end Go.AB
namespace Go.Proofs.YtgffhbbcpgdjjaaGreatDoor
set_option maxRecDepth 10000
open Go Go.RowKit Go.AB
open Go.AB.Enc (cells)
open Go.PB (ay aj PlaceD bg bi bh bn ak ah cr bq dr dt)
set_option maxHeartbeats 4000000 in
theorem qz (n : Nat) (p : ah) : gd n f8 Tryz.prog 44 [val p] (.tup [k7 p, .v (.int .i64 (dc p))]) := fun G nx hF hnx => by
 refine jg (G) (nx) Tryz.func44 rfl (.tup (ce (ugr _ _) (ce .v dq))) zN (fun hlt => zH) ?_
 simp only [Tryz.ntmps44, List.length_cons, List.length_nil, Nat.reduceAdd, Nat.reduceSub]
 refine cb fun hlt => ?_
 dsimp only at hlt
 refine yS fun _ K1 => ?_
 refine yR ?_
 try dsimp only [St.put]
 refine yB rfl rfl rfl ?_
 refine yA rfl rfl ?_
 refine yA rfl rfl ?_
 refine yN ?_
 dsimp only [St.put]
 refine K1 _ ?_
 refine uj2 ?_
 refine yS fun _ K2 => ?_
 refine yS fun _ K3 => ?_
 refine yR ?_
 refine yF rfl rfl rfl rfl ?_
 try dsimp only [St.put]
 refine bk rfl (c := gx p.text) (jx (cs := cells p) rfl rfl (show 1 ≤ 4 by decide)) ?_
 try dsimp only [St.put]
 refine ae rfl (ba rfl rfl rfl (uri p.text) ?_)
 refine yA rfl rfl ?_
 refine yN ?_
 dsimp only [St.put]
 refine K3 _ ?_
 refine yS fun _ K4 => ?_
 refine yR ?_
 refine yM rfl rfl ?_
 refine aa rfl (gk rfl rfl rfl) ?_
 refine yN ?_
 dsimp only [St.put]
 refine K4 _ ?_
 refine aq rfl (fun hc => ?_) (fun hc => ?_)
 ·have ht : ed p.text = false := by
   have h0 := ke hc
   unfold ju at h0
   cases h1 : ed p.text
   ·rfl
   rw [h1] at h0; exact absurd rfl h0
  have hE : dc p = 10 := utq ht
  have hR : ju p.text = 10 := by simp [ju, ht]
  refine yS fun _ K5 => ?_
  refine yR ?_
  refine yM rfl rfl ?_
  refine yA rfl rfl ?_
  refine yA rfl rfl ?_
  refine yN ?_
  dsimp only [St.put]
  refine K5 _ ?_
  refine ar ?_
  refine ld rfl (by constructor) (by constructor) zN zS ?_ ?_
  ·rw [xg (by rw [hE]; decide)]
  rw [hE, hR]
 have ht : ed p.text = true := by
  have h0 := i5 hc
  unfold ju at h0
  cases h1 : ed p.text
  ·rw [h1] at h0; cases h0
  rfl
 obtain ⟨hl1, hl2, hl3⟩ := mx ht
 have hll : ox p.text ≤ 60 := y8 ht _ (Nat.le_refl _)
 refine ax ?_
 refine K2 _ ?_
 refine yS fun _ K6 => ?_
 refine yR ?_
 refine yF rfl rfl rfl rfl ?_
 try dsimp only [St.put]
 refine bk rfl (c := gx p.text) (jx (cs := cells p) rfl rfl (show 1 ≤ 4 by decide)) ?_
 try dsimp only [St.put]
 refine ae rfl (ba rfl rfl rfl (upr p.text ht) ?_)
 refine yM rfl rfl ?_
 refine yX rfl rfl rfl rfl ?_
 refine yX rfl rfl rfl rfl ?_
 refine yA rfl rfl ?_
 refine yA rfl rfl ?_
 refine yN ?_
 dsimp only [St.put]
 refine K6 _ ?_
 refine yS fun _ K7 => ?_
 refine yR ?_
 try dsimp only [St.put]
 refine ae rfl (uc8 (α := Int) rfl ?_)
 refine yA rfl rfl ?_
 refine yN ?_
 dsimp only [St.put]
 refine K7 _ ?_
 refine yS fun _ K8 => ?_
 refine yS fun _ K9 => ?_
 refine yR ?_
 try dsimp only [St.put]
 refine bk rfl (pp (n := 6) (m := n) rfl rfl zG rfl) ?_
 refine yM rfl rfl ?_
 refine yN ?_
 dsimp only [St.put]
 refine K9 _ ?_
 refine bf ?_
 refine cm 38 ?_
 refine zQ ?_
 refine dm (ai G nx (jk Tryz.prog 3 0 fun _ => none)) zX ?_
 dsimp only
 refine dj (X := Nat) (fun k => k ≤ 2 ∧ okR (iv p k) ∧ ((0 < k → p.firsts.length ≤ 3) ∧ (1 < k → p.seconds.length ≤ 3))) (fun k => 2 - k) (fun k => [(9, .any), (11, .any), (37, .v (.int .i64 (k : Int)))]) (fun k G' => (ai G (nx) (jk Tryz.prog 3 (((iv p k).length)) (jh (((iv p k)).map (·.id)))))) 0 rfl ?_ ?_ ?_ ?_ ?_ ?_
 ·exact ⟨by omega, ⟨rfl, List.nodup_nil⟩, fun h => absurd h (Nat.lt_irrefl _), fun h => by omega⟩
 ·exact zF
 ·rw [show jh ((iv p 0).map (·.id)) = fun _ => none from uh1]
  exact zX
 ·rintro k hI
  exact (by (try dsimp only); repeat' (first | exact trivial | refine ⟨?_, ?_⟩ | exact .v | exact .any | refine .elem ?_ | exact bv _ _ | exact fy _ _ | exact eu _ _ | exact fg _ (by (try dsimp only); omega) | exact .box (by (try dsimp only); omega) | exact fj | exact dq | exact jj (k8 _ _) | refine f9 ?_ ?_ | exact .arr (by (try dsimp only); omega) | exact .own (by (try dsimp only); omega) | exact .map (by (try dsimp only); omega) | exact e8 _ | refine ce ?_ ?_ | exact bv _ _))
 ·rintro k hI
  exact (by (repeat' (refine ka ?_ (by (try dsimp only); omega) ?_)); all_goals (first | exact mn zS | (repeat' (first | exact trivial | refine ⟨?_, ?_⟩ | exact .v | exact .any | refine .elem ?_ | exact bv _ _ | exact fy _ _ | exact eu _ _ | exact fg _ (by (try dsimp only); omega) | exact .box (by (try dsimp only); omega) | exact fj | exact dq | exact jj (k8 _ _) | refine f9 ?_ ?_ | exact .arr (by (try dsimp only); omega) | exact .own (by (try dsimp only); omega) | exact .map (by (try dsimp only); omega) | exact e8 _ | refine ce ?_ ?_ | exact bv _ _))))
 rintro k hI
 dsimp only at hI ⊢
 refine yS fun _ K10 => ?_
 refine yR ?_
 refine aa rfl (ck rfl rfl rfl) ?_
 refine yN ?_
 dsimp only [St.put]
 refine K10 _ ?_
 refine yS fun _ K11 => ?_
 refine aq rfl (fun hc => ?_) (fun hc => ?_)
 ·replace hc := of_decide_eq_true hc
  have hk : k < 2 := by omega
  refine ax ?_
  refine K11 _ ?_
  refine yS fun _ K12 => ?_
  refine bf ?_
  refine yS fun _ K13 => ?_
  refine yR ?_
  refine aa rfl (zy (k := k) (m := 2) (sz := 3) rfl rfl rfl rfl hk (zb hk)) ?_
  try dsimp only [St.put]
  refine ae rfl (dx rfl ?_)
  try dsimp only [St.put]
  refine ae rfl (di rfl rfl rfl zG rfl rfl (by rfl) ?_)
  refine yN ?_
  dsimp only [St.put]
  refine K13 _ ?_
  refine gg (i := 9) rfl zG zC ?_
  dsimp only
  refine yS fun _ K14 => ?_
  refine yS fun _ K15 => ?_
  refine yR ?_
  refine yF rfl rfl rfl rfl ?_
  refine yL rfl rfl rfl ?_
  refine yE rfl rfl rfl ?_
  try dsimp only [St.put]
  refine ae rfl (ba rfl rfl rfl (r8 (decide (k = 1)) p) ?_)
  refine aa rfl (bp rfl rfl (List.length_map _)) ?_
  refine aa rfl (ir rfl rfl rfl) ?_
  refine yN ?_
  dsimp only [St.put]
  refine K15 _ ?_
  refine aq rfl (fun hc => ?_) (fun hc => ?_)
  ·have hs3 : ¬ (cy p (decide (k = 1))).length ≤ 3 := by
    have := of_decide_eq_true hc
    omega
   have hE : dc p = 90 := uax ht (uq1 hs3)
   refine yS fun _ K16 => ?_
   refine yR ?_
   refine yA rfl rfl ?_
   refine yA rfl rfl ?_
   refine yN ?_
   dsimp only [St.put]
   refine K16 _ ?_
   refine ar ?_
   refine ld rfl (by constructor) (by constructor) zN zS ?_ ?_
   ·rw [xg (by rw [hE]; decide)]
   rw [hE]
  have hs3 : (cy p (decide (k = 1))).length ≤ 3 := by
   have := of_decide_eq_false hc
   omega
  refine ax ?_
  refine K14 _ ?_
  refine yS fun _ K17 => ?_
  refine yR ?_
  refine yF rfl rfl rfl rfl ?_
  refine yL rfl rfl rfl ?_
  refine yE rfl rfl rfl ?_
  try dsimp only [St.put]
  refine ae rfl (ba rfl rfl rfl (r8 (decide (k = 1)) p) ?_)
  refine aa rfl (bp rfl rfl (List.length_map _)) ?_
  refine yM rfl rfl ?_
  refine yN ?_
  dsimp only [St.put]
  rw [show jh ((iv p k).map (·.id)) = jh ((iv p k ++ (cy p (decide (k = 1))).take 0).map (·.id)) by simp]
  refine K17 _ ?_
  refine bf ?_
  refine cm 52 ?_
  refine zQ ?_
  refine dm ((ai G (nx) (jk Tryz.prog 3 (((iv p k).length)) (jh (((iv p k ++ (cy p (decide (k = 1))).take 0)).map (·.id)))))) zX ?_
  dsimp only
  refine dj (X := Nat) (fun i => i ≤ (cy p (decide (k = 1))).length ∧ okR (iv p k ++ (cy p (decide (k = 1))).take i)) (fun i => (cy p (decide (k = 1))).length - i) (fun i => [(11, .any), (51, .v (.int .i64 (i : Int)))]) (fun i G' => (ai G (nx) (jk Tryz.prog 3 (((iv p k ++ (cy p (decide (k = 1))).take i).length)) (jh (((iv p k ++ (cy p (decide (k = 1))).take i)).map (·.id)))))) 0 rfl ?_ ?_ ?_ ?_ ?_ ?_
  ·exact ⟨Nat.zero_le _, by simpa using hI.2.1⟩
  ·exact zF
  ·rw [show (iv p k ++ (cy p (decide (k = 1))).take 0).length = (iv p k).length by simp]
   exact zX
  ·rintro i hI
   exact (by (try dsimp only); repeat' (first | exact trivial | refine ⟨?_, ?_⟩ | exact .v | exact .any | refine .elem ?_ | exact bv _ _ | exact fy _ _ | exact eu _ _ | exact fg _ (by (try dsimp only); omega) | exact .box (by (try dsimp only); omega) | exact fj | exact dq | exact jj (k8 _ _) | refine f9 ?_ ?_ | exact .arr (by (try dsimp only); omega) | exact .own (by (try dsimp only); omega) | exact .map (by (try dsimp only); omega) | exact e8 _ | refine ce ?_ ?_ | exact bv _ _))
  ·rintro i hI
   exact (by (repeat' (refine ka ?_ (by (try dsimp only); omega) ?_)); all_goals (first | exact mn zS | (repeat' (first | exact trivial | refine ⟨?_, ?_⟩ | exact .v | exact .any | refine .elem ?_ | exact bv _ _ | exact fy _ _ | exact eu _ _ | exact fg _ (by (try dsimp only); omega) | exact .box (by (try dsimp only); omega) | exact fj | exact dq | exact jj (k8 _ _) | refine f9 ?_ ?_ | exact .arr (by (try dsimp only); omega) | exact .own (by (try dsimp only); omega) | exact .map (by (try dsimp only); omega) | exact e8 _ | refine ce ?_ ?_ | exact bv _ _))))
  rintro i hJ
  dsimp only at hJ ⊢
  refine yS fun _ K18 => ?_
  refine yR ?_
  refine aa rfl (ck rfl rfl rfl) ?_
  refine yN ?_
  dsimp only [St.put]
  refine K18 _ ?_
  refine yS fun _ K19 => ?_
  refine aq rfl (fun hc => ?_) (fun hc => ?_)
  ·replace hc := of_decide_eq_true hc
   obtain ⟨r, hr⟩ : ∃ r, (cy p (decide (k = 1)))[i]? = some r := dl (by omega)
   obtain ⟨L, hL⟩ : ∃ L, iv p k ++ (cy p (decide (k = 1))).take i = L := ⟨_, rfl⟩
   refine ax ?_
   refine K19 _ ?_
   refine yS fun _ K20 => ?_
   refine bf ?_
   refine yS fun _ K21 => ?_
   refine yR ?_
   refine aa rfl (bw rfl rfl rfl rfl (bu (by assumption)) (Enc.len _)) ?_
   refine yE rfl rfl rfl ?_
   try dsimp only [St.put]
   refine ae rfl (dx rfl ?_)
   try dsimp only [St.put]
   refine ae rfl (di rfl rfl rfl zG rfl rfl (by rfl) ?_)
   refine yN ?_
   dsimp only [St.put]
   refine K21 _ ?_
   refine gg (i := 11) rfl zG zC ?_
   dsimp only
   refine yS fun _ K22 => ?_
   refine cm 52 ?_
   refine zQ ?_
   refine lf (X := Bool) (fun d => d = !(io r && !decide (r.id ∈ (iv p k ++ (cy p (decide (k = 1))).take i).map (·.id)))) (fun d => [(72, .v (.bool d))]) (fun d G' => G') rfl ?_ (fun _ _ _ _ h => .inl h) ?_ ?_
   ·rintro d hI
    exact (by (try dsimp only); repeat' (first | exact trivial | refine ⟨?_, ?_⟩ | exact .v | exact .any | refine .elem ?_ | exact bv _ _ | exact fy _ _ | exact eu _ _ | exact fg _ (by (try dsimp only); omega) | exact .box (by (try dsimp only); omega) | exact fj | exact dq | exact jj (k8 _ _) | refine f9 ?_ ?_ | exact .arr (by (try dsimp only); omega) | exact .own (by (try dsimp only); omega) | exact .map (by (try dsimp only); omega) | exact e8 _ | refine ce ?_ ?_ | exact bv _ _))
   ·refine yR ?_
    refine yF rfl rfl rfl rfl ?_
    refine yL rfl rfl rfl ?_
    try dsimp only [St.put]
    refine ae rfl (ef rfl rfl rfl (by decide) (by decide) zR (by decide) ?_)
    try dsimp only [St.put]
    refine ae rfl (ba rfl rfl rfl (pu _ _ [_]) ?_)
    refine aa rfl (ei rfl rfl) ?_
    refine yM rfl rfl ?_
    refine ff (fun hs => ?_) (fun hs => ?_)
    ·have h5 : inB r.id 0 9999 = false := by rw [ig] at hs; simpa using hs
     refine yK rfl ?_
     refine yK rfl ?_
     refine yK rfl ?_
     refine yK rfl ?_
     refine aa rfl (ci rfl rfl (by constructor)) ?_
     refine yM rfl rfl ?_
     refine yK rfl ?_
     refine yK rfl ?_
     refine yK rfl ?_
     refine yK rfl ?_
     refine yK rfl ?_
     refine aa rfl (ci rfl rfl (by constructor)) ?_
     refine yN ?_
     dsimp only [St.put]
     refine ⟨_, ?_, ⟨⟨rfl, rfl⟩, zF, zB, zN, zX⟩⟩
     unfold io
     first
     | (rw [h5]; simp; done)
     | (rw [decide_eq_true h11]; simp; done)
     | (rw [h5, decide_eq_false h11, ig]; simp)
    have h5 : inB r.id 0 9999 = true := by rw [ig] at hs; simpa using hs
    refine yM rfl rfl ?_
    refine yF rfl rfl rfl rfl ?_
    refine yL rfl rfl rfl ?_
    try dsimp only [St.put]
    refine bk rfl (ze r.id rfl rfl zG trivial rfl (uh2 _ _)) ?_
    refine aa rfl (cz rfl rfl (by constructor)) ?_
    refine yM rfl rfl ?_
    refine ff (fun hs => ?_) (fun hs => ?_)
    ·have h11 := of_decide_eq_true hs
     refine yK rfl ?_
     refine yK rfl ?_
     refine yK rfl ?_
     refine yK rfl ?_
     refine yK rfl ?_
     refine aa rfl (ci rfl rfl (by constructor)) ?_
     refine yN ?_
     dsimp only [St.put]
     refine ⟨_, ?_, ⟨⟨rfl, rfl⟩, zF, zB, zN, zX⟩⟩
     unfold io
     first
     | (rw [h5]; simp; done)
     | (rw [decide_eq_true h11]; simp; done)
     | (rw [h5, decide_eq_false h11, ig]; simp)
    have h11 := of_decide_eq_false hs
    refine yF rfl rfl rfl rfl ?_
    refine yL rfl rfl rfl ?_
    try dsimp only [St.put]
    refine ae rfl (ef rfl rfl rfl (by decide) (by decide) zR (by decide) ?_)
    try dsimp only [St.put]
    refine ae rfl (ba rfl rfl rfl (pu _ _ [_]) ?_)
    refine aa rfl (ei rfl rfl) ?_
    refine aa rfl (cz rfl rfl (by constructor)) ?_
    refine yN ?_
    dsimp only [St.put]
    refine ⟨_, ?_, ⟨⟨rfl, rfl⟩, zF, zB, zN, zX⟩⟩
    unfold io
    first
    | (rw [h5]; simp; done)
    | (rw [decide_eq_true h11]; simp; done)
    | (rw [h5, decide_eq_false h11, ig]; simp)
   rintro d hst
   dsimp only at hst ⊢
   refine aq rfl (fun hc => ?_) (fun hc => ?_)
   ·have hbad : io r = false ∨ r.id ∈ (iv p k ++ (cy p (decide (k = 1))).take i).map (·.id) := by
     rw [hc] at hst
     cases h1 : io r
     ·exact .inl rfl
     rw [h1] at hst
     right
     exact Classical.byContradiction fun h2 => by rw [decide_eq_false h2] at hst; cases hst
    have hE : dc p = 90 := uax ht (uor hk hr hbad)
    refine yS fun _ K24 => ?_
    refine yR ?_
    refine yA rfl rfl ?_
    refine yA rfl rfl ?_
    refine yN ?_
    dsimp only [St.put]
    refine K24 _ ?_
    refine ar ?_
    refine ld rfl (by constructor) (by constructor) zN zS ?_ ?_
    ·rw [xg (by rw [hE]; decide)]
    rw [hE]
   have hgood : io r = true ∧ r.id ∉ (iv p k ++ (cy p (decide (k = 1))).take i).map (·.id) := by
    rw [hc] at hst
    cases h1 : io r
    ·rw [h1] at hst; cases hst
    rw [h1] at hst
    exact ⟨rfl, fun h2 => by rw [decide_eq_true h2] at hst; cases hst⟩
   refine ax ?_
   refine K22 _ ?_
   refine yR ?_
   refine yM rfl rfl ?_
   refine yF rfl rfl rfl rfl ?_
   refine yL rfl rfl rfl ?_
   try dsimp only [St.put]
   refine ae rfl (x8 (r.id) rfl rfl rfl zG rfl ((show lx (jh ((iv p k ++ (cy p (decide (k = 1))).take i).map (·.id))) r.id (.v (.bool true)) = jh ((iv p k ++ (cy p (decide (k = 1))).take (i + 1)).map (·.id)) from by rw [ubk hr, ← List.append_assoc]; exact urx r)) ?_)
   refine yN ?_
   dsimp only [St.put]
   refine K20 _ ?_
   refine yR ?_
   refine aa rfl (br rfl rfl rfl (by omega)) ?_
   refine yM rfl rfl ?_
   refine yN ?_
   dsimp only [St.put]
   rw [show (iv p k ++ (cy p (decide (k = 1))).take i).length + 1 = (iv p k ++ (cy p (decide (k = 1))).take (i + 1)).length by rw [ubk hr, ← List.append_assoc, List.length_append (bs := [r])]; rfl]
   exact ⟨i + 1, by omega, ⟨by omega, by rw [ubk hr, ← List.append_assoc]; exact uqa hJ.2 hgood.1 hgood.2⟩, ⟨⟨rfl, rfl⟩, zF, zB, zN, zX⟩⟩
  replace hc := of_decide_eq_false hc
  refine c6 ?_
  refine K12 _ ?_
  refine yR ?_
  refine aa rfl (br rfl rfl rfl (by omega)) ?_
  refine yM rfl rfl ?_
  refine yN ?_
  dsimp only [St.put]
  rw [show iv p k ++ (cy p (decide (k = 1))).take i = iv p (k + 1) by rw [unl hk, ia (by omega)]] at hJ ⊢
  exact ⟨k + 1, by omega, ⟨by omega, hJ.2, by
   have h3 := hI.2.2
   by_cases e : k = 0
   ·subst e; exact ⟨fun _ => hs3, fun h => by omega⟩
   have e1 : k = 1 := by omega
   subst e1; exact ⟨fun _ => h3.1 (by omega), fun _ => hs3⟩⟩, ⟨⟨rfl, rfl⟩, zF, zB, zN, zX⟩⟩
 replace hc := of_decide_eq_false hc
 obtain rfl : k = 2 := by omega
 have hRB : kz p = true := by
  unfold kz
  have h2 := hI.2.1
  have h3 := hI.2.2
  rw [decide_eq_true (h3.1 (by omega)), decide_eq_true (h3.2 (by omega)), show (p.firsts ++ p.seconds).all io = true from h2.1, decide_eq_true (show ((p.firsts ++ p.seconds).map (·.id)).Nodup from h2.2)]; rfl
 have hn1 : p.firsts.length ≤ 3 := hI.2.2.1 (by omega)
 have hn2 : p.seconds.length ≤ 3 := hI.2.2.2 (by omega)
 have hsl : ∀ b, (cy p b).length ≤ 3 := fun b => by cases b; exact hn1; exact hn2
 refine c6 ?_
 refine K8 _ ?_
 refine yS fun _ K25 => ?_
 refine yS fun _ K26 => ?_
 refine yR ?_
 refine yF rfl rfl rfl rfl ?_
 refine yL rfl rfl rfl ?_
 refine aa rfl (bp rfl rfl (List.length_map _)) ?_
 refine aa rfl (ir rfl rfl rfl) ?_
 refine yN ?_
 dsimp only [St.put]
 refine K26 _ ?_
 refine aq rfl (fun hc => ?_) (fun hc => ?_)
 ·have hnp : ¬ p.pages.length ≤ 8 := by
   have := of_decide_eq_true hc
   omega
  have hE : dc p = 90 := uax ht (upe hnp)
  refine yS fun _ K27 => ?_
  refine yR ?_
  refine yA rfl rfl ?_
  refine yA rfl rfl ?_
  refine yN ?_
  dsimp only [St.put]
  refine K27 _ ?_
  refine ar ?_
  refine ld rfl (by constructor) (by constructor) zN zS ?_ ?_
  ·rw [xg (by rw [hE]; decide)]
  rw [hE]
 have hnp : p.pages.length ≤ 8 := by
  have := of_decide_eq_false hc
  omega
 refine ax ?_
 refine K25 _ ?_
 refine yS fun _ K28 => ?_
 refine yR ?_
 refine yE rfl rfl rfl ?_
 refine aa rfl (iz rfl rfl) ?_
 try dsimp only [St.put]
 refine ae rfl (uc9 rfl rfl ?_)
 refine yA rfl rfl ?_
 refine yN ?_
 dsimp only [St.put]
 refine K28 _ ?_
 refine sy (nx + 1) 4 _ _ 3 1 zG rfl (by decide) ?_
 refine sy (nx + 1) 5 _ _ 36 1 zG rfl (by decide) ?_
 refine sy (nx + 1) 6 _ _ 36 1 zG rfl (by decide) ?_
 dsimp only [List.set_cons_zero, List.set_cons_succ]
 refine yS fun _ K29 => ?_
 refine yR ?_
 refine yA rfl rfl ?_
 refine yN ?_
 dsimp only [St.put]
 refine K29 _ ?_
 refine yS fun _ K30 => ?_
 refine yR ?_
 refine yA rfl rfl ?_
 refine yN ?_
 dsimp only [St.put]
 refine K30 _ ?_
 refine yS fun _ K31 => ?_
 refine uj5 ?_
 refine K31 _ ?_
 refine yS fun _ K32 => ?_
 refine yS fun _ K33 => ?_
 refine yR ?_
 refine yF rfl rfl rfl rfl ?_
 refine yL rfl rfl rfl ?_
 refine aa rfl (bp rfl rfl (List.length_map _)) ?_
 refine yM rfl rfl ?_
 refine yN ?_
 dsimp only [St.put]
 refine K33 _ ?_
 refine bf ?_
 refine cm 89 ?_
 refine zQ ?_
 refine dm ((ai (ai (ai (ai G (nx + 1) (.box (0 + 0 + 0) [lst p.text, lst p.firsts, lst p.seconds, lst p.pages, .list (((p.pages.take 0).map fun x => (fh p.text x : Int)).map cells) (.tip (nx + 1 + 1)), .list (((p.pages.take 0).map (d7 p.text)).map cells) (.tip (nx + 1 + 1 + 1)), .list (((p.pages.take 0).map (er p.text)).map cells) (.tip (nx + 1 + 1 + 1 + 1))])) (nx + 1 + 1) (.tip ((p.pages.take 0).map fun x => (fh p.text x : Int)).length 3 1)) (nx + 1 + 1 + 1) (.tip ((p.pages.take 0).map (d7 p.text)).length 36 1)) (nx + 1 + 1 + 1 + 1) (.tip ((p.pages.take 0).map (er p.text)).length 36 1))) zX ?_
 dsimp only
 refine dj (X := Nat) (fun j => j ≤ p.pages.length ∧ tm p j = true) (fun j => p.pages.length - j) (fun j => [(13, .v (.int .i64 (jc p.pages j))), (16, .any), (18, .any), (19, .any), (20, .any), (21, .any), (22, .any), (88, .v (.int .i64 (j : Int)))]) (fun j G' => (ai (ai (ai (ai G (nx + 1) (.box (j + j + j) [lst p.text, lst p.firsts, lst p.seconds, lst p.pages, .list (((p.pages.take j).map fun x => (fh p.text x : Int)).map cells) (.tip (nx + 1 + 1)), .list (((p.pages.take j).map (d7 p.text)).map cells) (.tip (nx + 1 + 1 + 1)), .list (((p.pages.take j).map (er p.text)).map cells) (.tip (nx + 1 + 1 + 1 + 1))])) (nx + 1 + 1) (.tip ((p.pages.take j).map fun x => (fh p.text x : Int)).length 3 1)) (nx + 1 + 1 + 1) (.tip ((p.pages.take j).map (d7 p.text)).length 36 1)) (nx + 1 + 1 + 1 + 1) (.tip ((p.pages.take j).map (er p.text)).length 36 1))) 0 rfl ?_ ?_ ?_ ?_ ?_ ?_
 ·exact ⟨Nat.zero_le _, rfl⟩
 ·exact zF
 ·exact zX
 ·rintro j hI
  exact (by (try dsimp only); repeat' (first | exact trivial | refine ⟨?_, ?_⟩ | exact .v | exact .any | refine .elem ?_ | exact bv _ _ | exact fy _ _ | exact eu _ _ | exact fg _ (by (try dsimp only); omega) | exact .box (by (try dsimp only); omega) | exact fj | exact dq | exact jj (k8 _ _) | refine f9 ?_ ?_ | exact .arr (by (try dsimp only); omega) | exact .own (by (try dsimp only); omega) | exact .map (by (try dsimp only); omega) | exact e8 _ | refine ce ?_ ?_ | exact bv _ _))
 ·rintro j hI
  exact (by (repeat' (refine ka ?_ (by (try dsimp only); omega) ?_)); all_goals (first | exact mn zS | (repeat' (first | exact trivial | refine ⟨?_, ?_⟩ | exact .v | exact .any | refine .elem ?_ | exact bv _ _ | exact fy _ _ | exact eu _ _ | exact fg _ (by (try dsimp only); omega) | exact .box (by (try dsimp only); omega) | exact fj | exact dq | exact jj (k8 _ _) | refine f9 ?_ ?_ | exact .arr (by (try dsimp only); omega) | exact .own (by (try dsimp only); omega) | exact .map (by (try dsimp only); omega) | exact e8 _ | refine ce ?_ ?_ | exact bv _ _))))
 rintro j hK
 dsimp only at hK ⊢
 refine yS fun _ K34 => ?_
 refine yR ?_
 refine aa rfl (ck rfl rfl rfl) ?_
 refine yN ?_
 dsimp only [St.put]
 refine K34 _ ?_
 refine yS fun _ K35 => ?_
 refine aq rfl (fun hc => ?_) (fun hc => ?_)
 ·replace hc := of_decide_eq_true hc
  obtain ⟨x, hx⟩ : ∃ x, p.pages[j]? = some x := dl (by omega)
  refine ax ?_
  refine K35 _ ?_
  refine yS fun _ K36 => ?_
  refine bf ?_
  refine yS fun _ K37 => ?_
  refine yR ?_
  refine aa rfl (bw rfl rfl rfl rfl (bu (by assumption)) (Enc.len _)) ?_
  refine yE rfl rfl rfl ?_
  try dsimp only [St.put]
  refine ae rfl (dx rfl ?_)
  try dsimp only [St.put]
  refine ae rfl (di rfl rfl rfl zG rfl rfl (by rfl) ?_)
  refine yN ?_
  dsimp only [St.put]
  refine K37 _ ?_
  refine gg (i := 16) rfl zG zC ?_
  dsimp only
  refine cm 89 ?_
  refine zQ ?_
  refine lf (X := Bool) (fun d0 => d0 = tj p (jc p.pages j) x) (fun d0 => [(14, .v (.bool d0))]) (fun d0 G' => G') rfl ?_ (fun _ _ _ _ h => .inl h) ?_ ?_
  ·rintro d0 hI
   exact (by (try dsimp only); repeat' (first | exact trivial | refine ⟨?_, ?_⟩ | exact .v | exact .any | refine .elem ?_ | exact bv _ _ | exact fy _ _ | exact eu _ _ | exact fg _ (by (try dsimp only); omega) | exact .box (by (try dsimp only); omega) | exact fj | exact dq | exact jj (k8 _ _) | refine f9 ?_ ?_ | exact .arr (by (try dsimp only); omega) | exact .own (by (try dsimp only); omega) | exact .map (by (try dsimp only); omega) | exact e8 _ | refine ce ?_ ?_ | exact bv _ _))
  ·refine yR ?_
   refine yF rfl rfl rfl rfl ?_
   refine yL rfl rfl rfl ?_
   refine yM rfl rfl ?_
   refine aa rfl (ir rfl rfl rfl) ?_
   refine yM rfl rfl ?_
   refine ff (fun hs => ?_) (fun hs => ?_)
   ·have z1 : jc p.pages j < x.fr := of_decide_eq_true hs
    refine yF rfl rfl rfl rfl ?_
    refine yL rfl rfl rfl ?_
    refine yF rfl rfl rfl rfl ?_
    refine yL rfl rfl rfl ?_
    refine aa rfl (uw rfl rfl rfl) ?_
    refine aa rfl (ci rfl rfl (by constructor)) ?_
    refine yM rfl rfl ?_
    refine ff (fun hs => ?_) (fun hs => ?_)
    ·have z2 : x.fr ≤ x.to := of_decide_eq_true hs
     refine yF rfl rfl rfl rfl ?_
     refine yL rfl rfl rfl ?_
     refine yM rfl rfl ?_
     refine aa rfl (ck rfl rfl rfl) ?_
     refine aa rfl (ci rfl rfl (by constructor)) ?_
     refine yA rfl rfl ?_
     refine yN ?_
     dsimp only [St.put]
     refine ⟨_, ?_, ⟨⟨rfl, rfl⟩, zF, zB, zN, zX⟩⟩
     unfold tj
     first
     | (simp [z1]; done)
     | (simp [z1, z2]; done)
     | (simp [z1]; omega)
    have z2 : ¬ x.fr ≤ x.to := of_decide_eq_false hs
    refine yK rfl ?_
    refine yK rfl ?_
    refine yK rfl ?_
    refine yK rfl ?_
    refine aa rfl (cz rfl rfl (by constructor)) ?_
    refine yA rfl rfl ?_
    refine yN ?_
    dsimp only [St.put]
    refine ⟨_, ?_, ⟨⟨rfl, rfl⟩, zF, zB, zN, zX⟩⟩
    unfold tj
    first
    | (simp [z1]; done)
    | (simp [z1, z2]; done)
    | (simp [z1]; omega)
   have z1 : ¬ jc p.pages j < x.fr := of_decide_eq_false hs
   refine yK rfl ?_
   refine yK rfl ?_
   refine yK rfl ?_
   refine yK rfl ?_
   refine yK rfl ?_
   refine aa rfl (cz rfl rfl (by constructor)) ?_
   refine yM rfl rfl ?_
   refine yK rfl ?_
   refine yK rfl ?_
   refine yK rfl ?_
   refine yK rfl ?_
   refine aa rfl (cz rfl rfl (by constructor)) ?_
   refine yA rfl rfl ?_
   refine yN ?_
   dsimp only [St.put]
   refine ⟨_, ?_, ⟨⟨rfl, rfl⟩, zF, zB, zN, zX⟩⟩
   unfold tj
   first
   | (simp [z1]; done)
   | (simp [z1, z2]; done)
   | (simp [z1]; omega)
  rintro d0 hst0
  dsimp only at hst0 ⊢
  subst hst0
  refine yS fun _ K39 => ?_
  refine yS fun _ K40 => ?_
  refine yR ?_
  try dsimp only [St.put]
  refine bk rfl (pp (n := 6) (m := n) rfl rfl zG rfl) ?_
  refine yM rfl rfl ?_
  refine yN ?_
  dsimp only [St.put]
  refine K40 _ ?_
  refine bf ?_
  refine cm 111 ?_
  refine zQ ?_
  refine dm ((ai (ai (ai (ai G (nx + 1) (.box (j + j + j) [lst p.text, lst p.firsts, lst p.seconds, lst p.pages, .list (((p.pages.take j).map fun x => (fh p.text x : Int)).map cells) (.tip (nx + 1 + 1)), .list (((p.pages.take j).map (d7 p.text)).map cells) (.tip (nx + 1 + 1 + 1)), .list (((p.pages.take j).map (er p.text)).map cells) (.tip (nx + 1 + 1 + 1 + 1))])) (nx + 1 + 1) (.tip ((p.pages.take j).map fun x => (fh p.text x : Int)).length 3 1)) (nx + 1 + 1 + 1) (.tip ((p.pages.take j).map (d7 p.text)).length 36 1)) (nx + 1 + 1 + 1 + 1) (.tip ((p.pages.take j).map (er p.text)).length 36 1))) zX ?_
  dsimp only
  refine dj (X := Nat) (fun k => k ≤ 2) (fun k => 2 - k) (fun k => [(14, .v (.bool (r6 p (jc p.pages j) x k))), (18, .any), (19, .any), (20, .any), (21, .any), (22, .any), (110, .v (.int .i64 (k : Int)))]) (fun k G' => G') 0 rfl ?_ ?_ (fun _ _ h => h) ?_ ?_ ?_
  ·exact Nat.zero_le _
  ·exact zF
  ·rintro k hI
   exact (by (try dsimp only); repeat' (first | exact trivial | refine ⟨?_, ?_⟩ | exact .v | exact .any | refine .elem ?_ | exact bv _ _ | exact fy _ _ | exact eu _ _ | exact fg _ (by (try dsimp only); omega) | exact .box (by (try dsimp only); omega) | exact fj | exact dq | exact jj (k8 _ _) | refine f9 ?_ ?_ | exact .arr (by (try dsimp only); omega) | exact .own (by (try dsimp only); omega) | exact .map (by (try dsimp only); omega) | exact e8 _ | refine ce ?_ ?_ | exact bv _ _))
  ·exact fun _ _ _ _ h => .inl h
  rintro k hS
  dsimp only at hS ⊢
  refine yS fun _ K41 => ?_
  refine yR ?_
  refine aa rfl (ck rfl rfl rfl) ?_
  refine yN ?_
  dsimp only [St.put]
  refine K41 _ ?_
  refine yS fun _ K42 => ?_
  refine aq rfl (fun hc => ?_) (fun hc => ?_)
  ·replace hc := of_decide_eq_true hc
   have hk2 : k < 2 := by omega
   have hslk := hsl (decide (k = 1))
   refine ax ?_
   refine K42 _ ?_
   refine yS fun _ K43 => ?_
   refine bf ?_
   refine yS fun _ K44 => ?_
   refine yR ?_
   refine aa rfl (zy (k := k) (m := 2) (sz := 3) rfl rfl rfl rfl hk2 (zb hk2)) ?_
   try dsimp only [St.put]
   refine ae rfl (dx rfl ?_)
   try dsimp only [St.put]
   refine ae rfl (di rfl rfl rfl zG rfl rfl (by rfl) ?_)
   refine yN ?_
   dsimp only [St.put]
   refine K44 _ ?_
   refine gg (i := 18) rfl zG zC ?_
   dsimp only
   refine cm 111 ?_
   refine zQ ?_
   refine lf (X := Unit) (fun _ => True) (fun _ => [(19, .v (.int .i64 (cn (decide (k = 1)) x))), (20, lst (d8 (decide (k = 1)) x))]) (fun _ G' => G') rfl ?_ (fun _ _ _ _ h => .inl h) ?_ ?_
   ·rintro _ hI
    exact (by (try dsimp only); repeat' (first | exact trivial | refine ⟨?_, ?_⟩ | exact .v | exact .any | refine .elem ?_ | exact bv _ _ | exact fy _ _ | exact eu _ _ | exact fg _ (by (try dsimp only); omega) | exact .box (by (try dsimp only); omega) | exact fj | exact dq | exact jj (k8 _ _) | refine f9 ?_ ?_ | exact .arr (by (try dsimp only); omega) | exact .own (by (try dsimp only); omega) | exact .map (by (try dsimp only); omega) | exact e8 _ | refine ce ?_ ?_ | exact bv _ _))
   ·refine fw [(0, none), (1, none), (2, none), (4, none), (5, none), (6, none), (3, none), (7, none), (8, none), (9, none)] (fun i => [7].contains i) (fun i => [3, 7].contains i) (fun i => [0, 4, 8, 9].contains i) [] (by kernel_rfl) (by kernel_rfl) ?_
    refine af rfl rfl rfl rfl (cp rfl rfl rfl) ?_
    try dsimp only [St.put]
    refine aw rfl rfl rfl rfl (ca rfl rfl) ?_
    try dsimp only [St.put]
    refine aw rfl rfl rfl rfl (dz rfl rfl (Enc.len _)) ?_
    refine af rfl rfl rfl rfl (cp rfl rfl rfl) ?_
    try dsimp only [St.put]
    refine aw rfl rfl rfl rfl (ca rfl rfl) ?_
    try dsimp only [St.put]
    refine aw rfl rfl rfl rfl (dz rfl rfl (Enc.len _)) ?_
    refine gu ?_
    try dsimp only [St.put]
    refine ij rfl rfl rfl (ba rfl rfl rfl (ubt (decide (k = 1)) x) ⟨zD, ?_⟩)
    try dsimp only [St.put]
    refine f4 rfl rfl rfl rfl (ba rfl rfl rfl (ufa (decide (k = 1)) x) ?_)
    refine ec rfl rfl rfl rfl (dp rfl (by constructor)) ?_
    refine ec rfl rfl rfl rfl (dp rfl (by constructor)) ?_
    refine gt ?_
    dsimp only [St.put]
    exact ⟨(), trivial, ⟨⟨rfl, rfl⟩, zF, zB, zN, zX⟩⟩
   rintro _ h31
   dsimp only at h31 ⊢
   refine cm 111 ?_
   refine zQ ?_
   refine lf (X := Bool) (fun d => d = (r6 p (jc p.pages j) x k && (inB (cn (decide (k = 1)) x) (-1) (((cy p (decide (k = 1))).length : Int) - 1) && (decide (0 ≤ cn (decide (k = 1)) x) || decide (d8 (decide (k = 1)) x = []))))) (fun d => [(14, .v (.bool d))]) (fun d G' => G') rfl ?_ (fun _ _ _ _ h => .inl h) ?_ ?_
   ·rintro d hI
    exact (by (try dsimp only); repeat' (first | exact trivial | refine ⟨?_, ?_⟩ | exact .v | exact .any | refine .elem ?_ | exact bv _ _ | exact fy _ _ | exact eu _ _ | exact fg _ (by (try dsimp only); omega) | exact .box (by (try dsimp only); omega) | exact fj | exact dq | exact jj (k8 _ _) | refine f9 ?_ ?_ | exact .arr (by (try dsimp only); omega) | exact .own (by (try dsimp only); omega) | exact .map (by (try dsimp only); omega) | exact e8 _ | refine ce ?_ ?_ | exact bv _ _))
   ·refine yR ?_
    refine yM rfl rfl ?_
    refine yM rfl rfl ?_
    refine ff (fun hs => ?_) (fun hs => ?_)
    ·have s0 : r6 p (jc p.pages j) x k = true := hs
     refine yF rfl rfl rfl rfl ?_
     refine yL rfl rfl rfl ?_
     refine yE rfl rfl rfl ?_
     try dsimp only [St.put]
     refine ae rfl (ba rfl rfl rfl (r8 (decide (k = 1)) p) ?_)
     refine aa rfl (bp rfl rfl (List.length_map _)) ?_
     refine aa rfl (gr rfl rfl rfl (by omega)) ?_
     refine yM rfl rfl ?_
     try dsimp only [St.put]
     refine ae rfl (ef rfl rfl rfl (by decide) (by decide) zR (by decide) ?_)
     try dsimp only [St.put]
     refine ae rfl (ba rfl rfl rfl (pu _ _ [_]) ?_)
     refine aa rfl (ci rfl rfl (by constructor)) ?_
     refine yM rfl rfl ?_
     refine ff (fun hs => ?_) (fun hs => ?_)
     ·have s1 : inB (cn (decide (k = 1)) x) (-1) (((cy p (decide (k = 1))).length : Int) - 1) = true := by rw [ig] at hs; exact hs
      refine yM rfl rfl ?_
      refine aa rfl (m6 rfl rfl rfl) ?_
      refine yM rfl rfl ?_
      refine ff (fun hs => ?_) (fun hs => ?_)
      ·have s2 : 0 ≤ cn (decide (k = 1)) x := of_decide_eq_true hs
       refine yK rfl ?_
       refine yK rfl ?_
       refine yK rfl ?_
       refine aa rfl (ci rfl rfl (by constructor)) ?_
       refine aa rfl (ci rfl rfl (by constructor)) ?_
       refine yA rfl rfl ?_
       refine yN ?_
       dsimp only [St.put]
       refine ⟨_, ?_, ⟨⟨rfl, rfl⟩, zF, zB, zN, zX⟩⟩
       first
       | (rw [s0]; simp; done)
       | (rw [s0, s1]; simp; done)
       | (rw [s0, s1, decide_eq_true s2]; simp; done)
       | (rw [s0, s1, decide_eq_false s2, Bool.true_and, Bool.true_and, Bool.false_or, decide_eq_decide]; exact nil_len.symm)
      have s2 : ¬ 0 ≤ cn (decide (k = 1)) x := of_decide_eq_false hs
      refine yM rfl rfl ?_
      refine aa rfl (bp rfl rfl (List.length_map _)) ?_
      refine aa rfl (gl rfl rfl rfl) ?_
      refine aa rfl (cz rfl rfl (by constructor)) ?_
      refine aa rfl (ci rfl rfl (by constructor)) ?_
      refine yA rfl rfl ?_
      refine yN ?_
      dsimp only [St.put]
      refine ⟨_, ?_, ⟨⟨rfl, rfl⟩, zF, zB, zN, zX⟩⟩
      first
      | (rw [s0]; simp; done)
      | (rw [s0, s1]; simp; done)
      | (rw [s0, s1, decide_eq_true s2]; simp; done)
      | (rw [s0, s1, decide_eq_false s2, Bool.true_and, Bool.true_and, Bool.false_or, decide_eq_decide]; exact nil_len.symm)
     have s1 : inB (cn (decide (k = 1)) x) (-1) (((cy p (decide (k = 1))).length : Int) - 1) = false := by rw [ig] at hs; exact hs
     refine yK rfl ?_
     refine yK rfl ?_
     refine yK rfl ?_
     refine yK rfl ?_
     refine yK rfl ?_
     refine yK rfl ?_
     refine yK rfl ?_
     refine aa rfl (cz rfl rfl (by constructor)) ?_
     refine yA rfl rfl ?_
     refine yN ?_
     dsimp only [St.put]
     refine ⟨_, ?_, ⟨⟨rfl, rfl⟩, zF, zB, zN, zX⟩⟩
     first
     | (rw [s0]; simp; done)
     | (rw [s0, s1]; simp; done)
     | (rw [s0, s1, decide_eq_true s2]; simp; done)
     | (rw [s0, s1, decide_eq_false s2, Bool.true_and, Bool.true_and, Bool.false_or, decide_eq_decide]; exact nil_len.symm)
    have s0 : r6 p (jc p.pages j) x k = false := hs
    refine yK rfl ?_
    refine yK rfl ?_
    refine yK rfl ?_
    refine yK rfl ?_
    refine yK rfl ?_
    refine yK rfl ?_
    refine yK rfl ?_
    refine yK rfl ?_
    refine yK rfl ?_
    refine aa rfl (cz rfl rfl (by constructor)) ?_
    refine yM rfl rfl ?_
    refine yK rfl ?_
    refine yK rfl ?_
    refine yK rfl ?_
    refine yK rfl ?_
    refine yK rfl ?_
    refine yK rfl ?_
    refine yK rfl ?_
    refine aa rfl (cz rfl rfl (by constructor)) ?_
    refine yA rfl rfl ?_
    refine yN ?_
    dsimp only [St.put]
    refine ⟨_, ?_, ⟨⟨rfl, rfl⟩, zF, zB, zN, zX⟩⟩
    first
    | (rw [s0]; simp; done)
    | (rw [s0, s1]; simp; done)
    | (rw [s0, s1, decide_eq_true s2]; simp; done)
    | (rw [s0, s1, decide_eq_false s2, Bool.true_and, Bool.true_and, Bool.false_or, decide_eq_decide]; exact nil_len.symm)
   rintro d hd
   dsimp only at hd ⊢
   refine yS fun _ K47 => ?_
   refine l9 20 (fun hfit => ?_)
   have hfll := (fit_lst.1 hfit).1
   rw [show (C.v (.bool d)) = .v (.bool (d && el p.text x (d8 (decide (k = 1)) x) 0)) by simp [el]]
   refine yR ?_
   refine yM rfl rfl ?_
   refine aa rfl (bp rfl rfl (List.length_map _)) ?_
   refine yM rfl rfl ?_
   refine yN ?_
   dsimp only [St.put]
   refine K47 _ ?_
   refine bf ?_
   refine cm 145 ?_
   refine zQ ?_
   refine dm ((ai (ai (ai (ai G (nx + 1) (.box (j + j + j) [lst p.text, lst p.firsts, lst p.seconds, lst p.pages, .list (((p.pages.take j).map fun x => (fh p.text x : Int)).map cells) (.tip (nx + 1 + 1)), .list (((p.pages.take j).map (d7 p.text)).map cells) (.tip (nx + 1 + 1 + 1)), .list (((p.pages.take j).map (er p.text)).map cells) (.tip (nx + 1 + 1 + 1 + 1))])) (nx + 1 + 1) (.tip ((p.pages.take j).map fun x => (fh p.text x : Int)).length 3 1)) (nx + 1 + 1 + 1) (.tip ((p.pages.take j).map (d7 p.text)).length 36 1)) (nx + 1 + 1 + 1 + 1) (.tip ((p.pages.take j).map (er p.text)).length 36 1))) zX ?_
   dsimp only
   refine dj (X := Nat) (fun i => i ≤ (d8 (decide (k = 1)) x).length) (fun i => (d8 (decide (k = 1)) x).length - i) (fun i => [(14, .v (.bool (d && el p.text x (d8 (decide (k = 1)) x) i))), (21, .any), (22, .any), (144, .v (.int .i64 (i : Int)))]) (fun i G' => G') 0 rfl ?_ ?_ (fun _ _ h => h) ?_ ?_ ?_
   ·exact Nat.zero_le _
   ·exact zF
   ·rintro i hI
    exact (by (try dsimp only); repeat' (first | exact trivial | refine ⟨?_, ?_⟩ | exact .v | exact .any | refine .elem ?_ | exact bv _ _ | exact fy _ _ | exact eu _ _ | exact fg _ (by (try dsimp only); omega) | exact .box (by (try dsimp only); omega) | exact fj | exact dq | exact jj (k8 _ _) | refine f9 ?_ ?_ | exact .arr (by (try dsimp only); omega) | exact .own (by (try dsimp only); omega) | exact .map (by (try dsimp only); omega) | exact e8 _ | refine ce ?_ ?_ | exact bv _ _))
   ·exact fun _ _ _ _ h => .inl h
   rintro i hT
   dsimp only at hT ⊢
   refine yS fun _ K48 => ?_
   refine yR ?_
   refine aa rfl (ck rfl rfl rfl) ?_
   refine yN ?_
   dsimp only [St.put]
   refine K48 _ ?_
   refine yS fun _ K49 => ?_
   refine aq rfl (fun hc => ?_) (fun hc => ?_)
   ·replace hc := of_decide_eq_true hc
    obtain ⟨q, hq⟩ : ∃ q, (d8 (decide (k = 1)) x)[i]? = some q := dl (by omega)
    refine ax ?_
    refine K49 _ ?_
    refine yS fun _ K50 => ?_
    refine bf ?_
    refine yS fun _ K51 => ?_
    refine yR ?_
    refine yM rfl rfl ?_
    refine aa rfl (bw rfl rfl rfl rfl (bu (by assumption)) (Enc.len _)) ?_
    refine yE rfl rfl rfl ?_
    try dsimp only [St.put]
    refine ae rfl (dx rfl ?_)
    refine yA rfl rfl ?_
    try dsimp only [St.put]
    refine ae rfl (di rfl rfl rfl zG rfl rfl (by rfl) ?_)
    refine yN ?_
    dsimp only [St.put]
    refine K51 _ ?_
    refine gg (i := 22) rfl zG zC ?_
    dsimp only
    refine t8 [(0, none), (1, none), (2, none), (3, none), (4, none)] (fun _ => false) (fun i => [0, 1, 2].contains i) 33 (rl [5, 33]) (by kernel_rfl) (by kernel_rfl) ?_
    refine xM rfl rfl rfl rfl rfl ?_
    refine xM rfl rfl rfl rfl rfl ?_
    refine lg (fun hs => ?_) (fun hs => ?_)
    ·have w0 : (d && el p.text x (d8 (decide (k = 1)) x) i) = true := hs
     refine af rfl rfl rfl rfl (cp rfl rfl rfl) ?_
     try dsimp only [St.put]
     refine aw rfl rfl rfl rfl (c := gx p.text) (jx (cs := cells p) rfl rfl (show 1 ≤ 4 by decide)) ?_
     try dsimp only [St.put]
     refine aw rfl rfl rfl rfl (dz rfl rfl (Enc.len _)) ?_
     refine cw ?_
     refine em [5] (by kernel_rfl) (by simp) ?_
     refine ep ?_ ?_
     ·try dsimp only [St.put]
      refine jp rfl rfl rfl (ba rfl rfl rfl (upn p.text q ht) ?_)
      refine fp [(6, none), (7, none), (8, none), (9, none), (10, none), (11, none), (12, none), (13, none), (14, none), (15, none), (16, none), (17, none), (18, none), (19, none)] (fun i => [6, 7, 8, 10, 12, 13, 15, 17, 19].contains i) 18 (rl [20, 18]) (by kernel_rfl) ?_
      refine af rfl rfl rfl rfl (ci rfl rfl (by constructor)) ?_
      refine xM rfl rfl rfl rfl rfl ?_
      refine lg (fun hs => ?_) (fun hs => ?_)
      ·have w1 : gj p.text q = true := hs
       obtain ⟨kq, nq, wq, cq, lq, hqe, hq1, hq2, hq3⟩ := uf1 w1
       have hkl := (List.getElem?_eq_some_iff.1 hq1).1
       have hnl := (List.getElem?_eq_some_iff.1 hq2).1
       have hcl := (hl3 cq (gh hq1)).2.1
       have hst := ues (t := p.text) (k := p.text.length) (i := kq) hkl
       have hsb := y8 ht kq (by omega)
       have hqc : q.ch = (kq : Int) := by rw [hqe]
       have hql : q.ln = (nq : Int) := by rw [hqe]
       refine af rfl rfl rfl rfl (cp rfl rfl rfl) ?_
       try dsimp only [St.put]
       refine aw rfl rfl rfl rfl (ca rfl rfl) ?_
       refine af rfl rfl rfl rfl (cp rfl rfl rfl) ?_
       try dsimp only [St.put]
       refine aw rfl rfl rfl rfl (ca rfl rfl) ?_
       refine xM rfl rfl rfl rfl rfl ?_
       refine af rfl rfl rfl rfl (cp rfl rfl rfl) ?_
       try dsimp only [St.put]
       refine aw rfl rfl rfl rfl (ca rfl rfl) ?_
       try dsimp only [St.put]
       refine af rfl rfl rfl rfl (bw rfl rfl rfl (by omega) (bu (by assumption)) (Enc.len _)) ?_
       try dsimp only [St.put]
       refine aw rfl rfl rfl rfl (ca rfl rfl) ?_
       refine af rfl rfl rfl rfl (cp rfl rfl rfl) ?_
       try dsimp only [St.put]
       refine aw rfl rfl rfl rfl (ca rfl rfl) ?_
       refine af rfl rfl rfl rfl (br rfl rfl rfl (by omega)) ?_
       refine cw ?_
       refine em [20] (by kernel_rfl) (by simp) ?_
       refine ep ?_ ?_
       ·try dsimp only [St.put]
        refine jp rfl rfl rfl (ef rfl rfl rfl (by decide) (by decide) zR (by decide) ?_)
        refine em [21] (by kernel_rfl) (by simp) ?_
        refine ep ?_ ?_
        ·try dsimp only [St.put]
         refine jp rfl rfl rfl (ba rfl rfl rfl (pu _ _ [_]) ?_)
         refine fp [(22, none), (23, none), (24, none), (25, none), (26, none), (27, none), (28, none), (29, none), (30, none), (31, none), (32, none)] (fun i => [22, 23, 24, 25, 26, 27, 28, 29, 30].contains i) 5 (rl [33, 5]) (by kernel_rfl) ?_
         refine af rfl rfl rfl rfl (ci rfl rfl (by constructor)) ?_
         refine xM rfl rfl rfl rfl rfl ?_
         refine lg (fun hs => ?_) (fun hs => ?_)
         ·have w2 : dw p.text x q = true := by
           rw [ig] at hs
           unfold dw rg
           rw [hqc, Int.toNat_natCast, Int.add_comm]; exact hs
          refine xM rfl rfl rfl rfl rfl ?_
          refine af rfl rfl rfl rfl (gl rfl rfl rfl) ?_
          refine xM rfl rfl rfl rfl rfl ?_
          refine lg (fun hs => ?_) (fun hs => ?_)
          ·have w3 : i = 0 := by have := of_decide_eq_true hs; omega
           refine am rfl rfl rfl ?_
           refine am rfl rfl rfl ?_
           refine am rfl rfl rfl ?_
           refine am rfl rfl rfl ?_
           refine am rfl rfl rfl ?_
           refine am rfl rfl rfl ?_
           refine cw ?_
           refine em [33] (by kernel_rfl) (by simp) ?_
           refine ep ?_ ?_
           ·refine g8 rfl rfl rfl ?_
            refine fp [(34, none), (35, none), (36, none), (37, none)] (fun i => [34, 35, 36, 37].contains i) 0 (rl [38]) (by kernel_rfl) ?_
            refine am rfl rfl rfl ?_
            refine af rfl rfl rfl rfl (ci rfl rfl (by constructor)) ?_
            refine af rfl rfl rfl rfl (ci rfl rfl (by constructor)) ?_
            refine af rfl rfl rfl rfl (dp rfl (by constructor)) ?_
            refine cw ?_
            dsimp only [St.put]
            refine i9 (by kernel_rfl) ?_
            refine K50 _ ?_
            refine yR ?_
            refine aa rfl (br rfl rfl rfl (by omega)) ?_
            refine yM rfl rfl ?_
            refine yN ?_
            dsimp only [St.put]
            refine ⟨i + 1, by omega, by omega, ?_⟩
            try dsimp only
            first
            | (rw [show (d && el p.text x (d8 (decide (k = 1)) x) (i + 1)) = false by rw [iw, ← Bool.and_assoc, show (d && el p.text x (d8 (decide (k = 1)) x) i) = false from w0, Bool.false_and]]
               exact ⟨⟨rfl, rfl⟩, zF, zB, zN, zX⟩)
            | (rw [show (d && el p.text x (d8 (decide (k = 1)) x) (i + 1)) = false by rw [iw, jy hq, show gj p.text q = false from w1]; simp]
               exact ⟨⟨rfl, rfl⟩, zF, zB, zN, zX⟩)
            | (rw [show (d && el p.text x (d8 (decide (k = 1)) x) (i + 1)) = false by rw [iw, jy hq, show dw p.text x q = false from w2]; simp]
               exact ⟨⟨rfl, rfl⟩, zF, zB, zN, zX⟩)
            | (rw [show (d && el p.text x (d8 (decide (k = 1)) x) (i + 1)) = true by rw [iw, ← Bool.and_assoc, show (d && el p.text x (d8 (decide (k = 1)) x) i) = true from w0, jy hq, w1, w2, decide_eq_true (show i = 0 from w3)]; rfl]
               exact ⟨⟨rfl, rfl⟩, zF, zB, zN, zX⟩)
            | (rw [show (d && el p.text x (d8 (decide (k = 1)) x) (i + 1)) = decide (n7 a q < 0) by rw [iw, ← Bool.and_assoc, show (d && el p.text x (d8 (decide (k = 1)) x) i) = true from w0, jy hq, w1, w2, decide_eq_false (show ¬ i = 0 from w3), ha]; rfl]
               exact ⟨⟨rfl, rfl⟩, zF, zB, zN, zX⟩)
           exact eo
          have w3 : ¬ i = 0 := by have := of_decide_eq_false hs; omega
          obtain ⟨a, ha⟩ : ∃ a, (d8 (decide (k = 1)) x)[i - 1]? = some a := dl (by omega)
          refine xM rfl rfl rfl rfl rfl ?_
          refine xM rfl rfl rfl rfl rfl ?_
          refine af rfl rfl rfl rfl (gr rfl rfl rfl (by omega)) ?_
          try dsimp only [St.put]
          refine af rfl rfl rfl rfl (bw (k := i - 1) rfl rfl rfl (by omega) (bu ha) (Enc.len _)) ?_
          try dsimp only [St.put]
          refine aw rfl rfl rfl rfl (dz rfl rfl (Enc.len _)) ?_
          try dsimp only [St.put]
          refine aw rfl rfl rfl rfl (dz rfl rfl (Enc.len _)) ?_
          refine cw ?_
          refine em [33] (by kernel_rfl) (by simp) ?_
          refine ep ?_ ?_
          ·try dsimp only [St.put]
           refine jp rfl rfl rfl (ba rfl rfl rfl (uca a q) ?_)
           refine fp [(34, none), (35, none), (36, none), (37, none)] (fun i => [34, 35, 36, 37].contains i) 0 (rl [38]) (by kernel_rfl) ?_
           refine af rfl rfl rfl rfl (ck rfl rfl rfl) ?_
           refine af rfl rfl rfl rfl (cz rfl rfl (by constructor)) ?_
           refine af rfl rfl rfl rfl (ci rfl rfl (by constructor)) ?_
           refine af rfl rfl rfl rfl (dp rfl (by constructor)) ?_
           refine cw ?_
           dsimp only [St.put]
           refine i9 (by kernel_rfl) ?_
           refine K50 _ ?_
           refine yR ?_
           refine aa rfl (br rfl rfl rfl (by omega)) ?_
           refine yM rfl rfl ?_
           refine yN ?_
           dsimp only [St.put]
           refine ⟨i + 1, by omega, by omega, ?_⟩
           try dsimp only
           first
           | (rw [show (d && el p.text x (d8 (decide (k = 1)) x) (i + 1)) = false by rw [iw, ← Bool.and_assoc, show (d && el p.text x (d8 (decide (k = 1)) x) i) = false from w0, Bool.false_and]]
              exact ⟨⟨rfl, rfl⟩, zF, zB, zN, zX⟩)
           | (rw [show (d && el p.text x (d8 (decide (k = 1)) x) (i + 1)) = false by rw [iw, jy hq, show gj p.text q = false from w1]; simp]
              exact ⟨⟨rfl, rfl⟩, zF, zB, zN, zX⟩)
           | (rw [show (d && el p.text x (d8 (decide (k = 1)) x) (i + 1)) = false by rw [iw, jy hq, show dw p.text x q = false from w2]; simp]
              exact ⟨⟨rfl, rfl⟩, zF, zB, zN, zX⟩)
           | (rw [show (d && el p.text x (d8 (decide (k = 1)) x) (i + 1)) = true by rw [iw, ← Bool.and_assoc, show (d && el p.text x (d8 (decide (k = 1)) x) i) = true from w0, jy hq, w1, w2, decide_eq_true (show i = 0 from w3)]; rfl]
              exact ⟨⟨rfl, rfl⟩, zF, zB, zN, zX⟩)
           | (rw [show (d && el p.text x (d8 (decide (k = 1)) x) (i + 1)) = decide (n7 a q < 0) by rw [iw, ← Bool.and_assoc, show (d && el p.text x (d8 (decide (k = 1)) x) i) = true from w0, jy hq, w1, w2, decide_eq_false (show ¬ i = 0 from w3), ha]; rfl]
              exact ⟨⟨rfl, rfl⟩, zF, zB, zN, zX⟩)
          exact eo
         have w2 : dw p.text x q = false := by
          rw [ig] at hs
          unfold dw rg
          rw [hqc, Int.toNat_natCast, Int.add_comm]; exact hs
         refine am rfl rfl rfl ?_
         refine am rfl rfl rfl ?_
         refine am rfl rfl rfl ?_
         refine am rfl rfl rfl ?_
         refine am rfl rfl rfl ?_
         refine am rfl rfl rfl ?_
         refine am rfl rfl rfl ?_
         refine am rfl rfl rfl ?_
         refine am rfl rfl rfl ?_
         refine cw ?_
         refine em [33] (by kernel_rfl) (by simp) ?_
         refine ep ?_ ?_
         ·refine g8 rfl rfl rfl ?_
          refine fp [(34, none), (35, none), (36, none), (37, none)] (fun i => [34, 35, 36, 37].contains i) 0 (rl [38]) (by kernel_rfl) ?_
          refine am rfl rfl rfl ?_
          refine am rfl rfl rfl ?_
          refine af rfl rfl rfl rfl (cz rfl rfl (by constructor)) ?_
          refine af rfl rfl rfl rfl (dp rfl (by constructor)) ?_
          refine cw ?_
          dsimp only [St.put]
          refine i9 (by kernel_rfl) ?_
          refine K50 _ ?_
          refine yR ?_
          refine aa rfl (br rfl rfl rfl (by omega)) ?_
          refine yM rfl rfl ?_
          refine yN ?_
          dsimp only [St.put]
          refine ⟨i + 1, by omega, by omega, ?_⟩
          try dsimp only
          first
          | (rw [show (d && el p.text x (d8 (decide (k = 1)) x) (i + 1)) = false by rw [iw, ← Bool.and_assoc, show (d && el p.text x (d8 (decide (k = 1)) x) i) = false from w0, Bool.false_and]]
             exact ⟨⟨rfl, rfl⟩, zF, zB, zN, zX⟩)
          | (rw [show (d && el p.text x (d8 (decide (k = 1)) x) (i + 1)) = false by rw [iw, jy hq, show gj p.text q = false from w1]; simp]
             exact ⟨⟨rfl, rfl⟩, zF, zB, zN, zX⟩)
          | (rw [show (d && el p.text x (d8 (decide (k = 1)) x) (i + 1)) = false by rw [iw, jy hq, show dw p.text x q = false from w2]; simp]
             exact ⟨⟨rfl, rfl⟩, zF, zB, zN, zX⟩)
          | (rw [show (d && el p.text x (d8 (decide (k = 1)) x) (i + 1)) = true by rw [iw, ← Bool.and_assoc, show (d && el p.text x (d8 (decide (k = 1)) x) i) = true from w0, jy hq, w1, w2, decide_eq_true (show i = 0 from w3)]; rfl]
             exact ⟨⟨rfl, rfl⟩, zF, zB, zN, zX⟩)
          | (rw [show (d && el p.text x (d8 (decide (k = 1)) x) (i + 1)) = decide (n7 a q < 0) by rw [iw, ← Bool.and_assoc, show (d && el p.text x (d8 (decide (k = 1)) x) i) = true from w0, jy hq, w1, w2, decide_eq_false (show ¬ i = 0 from w3), ha]; rfl]
             exact ⟨⟨rfl, rfl⟩, zF, zB, zN, zX⟩)
         exact eo
        exact eo
       exact eo
      have w1 : gj p.text q = false := hs
      refine am rfl rfl rfl ?_
      refine am rfl rfl rfl ?_
      refine am rfl rfl rfl ?_
      refine am rfl rfl rfl ?_
      refine am rfl rfl rfl ?_
      refine am rfl rfl rfl ?_
      refine am rfl rfl rfl ?_
      refine am rfl rfl rfl ?_
      refine am rfl rfl rfl ?_
      refine am rfl rfl rfl ?_
      refine am rfl rfl rfl ?_
      refine am rfl rfl rfl ?_
      refine cw ?_
      refine em [20] (by kernel_rfl) (by simp) ?_
      refine ep ?_ ?_
      ·refine g8 rfl rfl rfl ?_
       refine em [21] (by kernel_rfl) (by simp) ?_
       refine ep ?_ ?_
       ·refine g8 rfl rfl rfl ?_
        refine fp [(22, none), (23, none), (24, none), (25, none), (26, none), (27, none), (28, none), (29, none), (30, none), (31, none), (32, none)] (fun i => [22, 23, 24, 25, 26, 27, 28, 29, 30].contains i) 5 (rl [33, 5]) (by kernel_rfl) ?_
        refine af rfl rfl rfl rfl (cz rfl rfl (by constructor)) ?_
        refine xM rfl rfl rfl rfl rfl ?_
        refine am rfl rfl rfl ?_
        refine am rfl rfl rfl ?_
        refine am rfl rfl rfl ?_
        refine am rfl rfl rfl ?_
        refine am rfl rfl rfl ?_
        refine am rfl rfl rfl ?_
        refine am rfl rfl rfl ?_
        refine am rfl rfl rfl ?_
        refine am rfl rfl rfl ?_
        refine cw ?_
        refine em [33] (by kernel_rfl) (by simp) ?_
        refine ep ?_ ?_
        ·refine g8 rfl rfl rfl ?_
         refine fp [(34, none), (35, none), (36, none), (37, none)] (fun i => [34, 35, 36, 37].contains i) 0 (rl [38]) (by kernel_rfl) ?_
         refine am rfl rfl rfl ?_
         refine am rfl rfl rfl ?_
         refine af rfl rfl rfl rfl (cz rfl rfl (by constructor)) ?_
         refine af rfl rfl rfl rfl (dp rfl (by constructor)) ?_
         refine cw ?_
         dsimp only [St.put]
         refine i9 (by kernel_rfl) ?_
         refine K50 _ ?_
         refine yR ?_
         refine aa rfl (br rfl rfl rfl (by omega)) ?_
         refine yM rfl rfl ?_
         refine yN ?_
         dsimp only [St.put]
         refine ⟨i + 1, by omega, by omega, ?_⟩
         try dsimp only
         first
         | (rw [show (d && el p.text x (d8 (decide (k = 1)) x) (i + 1)) = false by rw [iw, ← Bool.and_assoc, show (d && el p.text x (d8 (decide (k = 1)) x) i) = false from w0, Bool.false_and]]
            exact ⟨⟨rfl, rfl⟩, zF, zB, zN, zX⟩)
         | (rw [show (d && el p.text x (d8 (decide (k = 1)) x) (i + 1)) = false by rw [iw, jy hq, show gj p.text q = false from w1]; simp]
            exact ⟨⟨rfl, rfl⟩, zF, zB, zN, zX⟩)
         | (rw [show (d && el p.text x (d8 (decide (k = 1)) x) (i + 1)) = false by rw [iw, jy hq, show dw p.text x q = false from w2]; simp]
            exact ⟨⟨rfl, rfl⟩, zF, zB, zN, zX⟩)
         | (rw [show (d && el p.text x (d8 (decide (k = 1)) x) (i + 1)) = true by rw [iw, ← Bool.and_assoc, show (d && el p.text x (d8 (decide (k = 1)) x) i) = true from w0, jy hq, w1, w2, decide_eq_true (show i = 0 from w3)]; rfl]
            exact ⟨⟨rfl, rfl⟩, zF, zB, zN, zX⟩)
         | (rw [show (d && el p.text x (d8 (decide (k = 1)) x) (i + 1)) = decide (n7 a q < 0) by rw [iw, ← Bool.and_assoc, show (d && el p.text x (d8 (decide (k = 1)) x) i) = true from w0, jy hq, w1, w2, decide_eq_false (show ¬ i = 0 from w3), ha]; rfl]
            exact ⟨⟨rfl, rfl⟩, zF, zB, zN, zX⟩)
        exact eo
       exact eo
      exact eo
     exact eo
    have w0 : (d && el p.text x (d8 (decide (k = 1)) x) i) = false := hs
    refine am rfl rfl rfl ?_
    refine am rfl rfl rfl ?_
    refine am rfl rfl rfl ?_
    refine cw ?_
    refine em [5] (by kernel_rfl) (by simp) ?_
    refine ep ?_ ?_
    ·refine g8 rfl rfl rfl ?_
     refine fp [(6, none), (7, none), (8, none), (9, none), (10, none), (11, none), (12, none), (13, none), (14, none), (15, none), (16, none), (17, none), (18, none), (19, none)] (fun i => [6, 7, 8, 10, 12, 13, 15, 17, 19].contains i) 18 (rl [20, 18]) (by kernel_rfl) ?_
     refine af rfl rfl rfl rfl (cz rfl rfl (by constructor)) ?_
     refine xM rfl rfl rfl rfl rfl ?_
     refine am rfl rfl rfl ?_
     refine am rfl rfl rfl ?_
     refine am rfl rfl rfl ?_
     refine am rfl rfl rfl ?_
     refine am rfl rfl rfl ?_
     refine am rfl rfl rfl ?_
     refine am rfl rfl rfl ?_
     refine am rfl rfl rfl ?_
     refine am rfl rfl rfl ?_
     refine am rfl rfl rfl ?_
     refine am rfl rfl rfl ?_
     refine am rfl rfl rfl ?_
     refine cw ?_
     refine em [20] (by kernel_rfl) (by simp) ?_
     refine ep ?_ ?_
     ·refine g8 rfl rfl rfl ?_
      refine em [21] (by kernel_rfl) (by simp) ?_
      refine ep ?_ ?_
      ·refine g8 rfl rfl rfl ?_
       refine fp [(22, none), (23, none), (24, none), (25, none), (26, none), (27, none), (28, none), (29, none), (30, none), (31, none), (32, none)] (fun i => [22, 23, 24, 25, 26, 27, 28, 29, 30].contains i) 5 (rl [33, 5]) (by kernel_rfl) ?_
       refine af rfl rfl rfl rfl (cz rfl rfl (by constructor)) ?_
       refine xM rfl rfl rfl rfl rfl ?_
       refine am rfl rfl rfl ?_
       refine am rfl rfl rfl ?_
       refine am rfl rfl rfl ?_
       refine am rfl rfl rfl ?_
       refine am rfl rfl rfl ?_
       refine am rfl rfl rfl ?_
       refine am rfl rfl rfl ?_
       refine am rfl rfl rfl ?_
       refine am rfl rfl rfl ?_
       refine cw ?_
       refine em [33] (by kernel_rfl) (by simp) ?_
       refine ep ?_ ?_
       ·refine g8 rfl rfl rfl ?_
        refine fp [(34, none), (35, none), (36, none), (37, none)] (fun i => [34, 35, 36, 37].contains i) 0 (rl [38]) (by kernel_rfl) ?_
        refine am rfl rfl rfl ?_
        refine am rfl rfl rfl ?_
        refine af rfl rfl rfl rfl (cz rfl rfl (by constructor)) ?_
        refine af rfl rfl rfl rfl (dp rfl (by constructor)) ?_
        refine cw ?_
        dsimp only [St.put]
        refine i9 (by kernel_rfl) ?_
        refine K50 _ ?_
        refine yR ?_
        refine aa rfl (br rfl rfl rfl (by omega)) ?_
        refine yM rfl rfl ?_
        refine yN ?_
        dsimp only [St.put]
        refine ⟨i + 1, by omega, by omega, ?_⟩
        try dsimp only
        first
        | (rw [show (d && el p.text x (d8 (decide (k = 1)) x) (i + 1)) = false by rw [iw, ← Bool.and_assoc, show (d && el p.text x (d8 (decide (k = 1)) x) i) = false from w0, Bool.false_and]]
           exact ⟨⟨rfl, rfl⟩, zF, zB, zN, zX⟩)
        | (rw [show (d && el p.text x (d8 (decide (k = 1)) x) (i + 1)) = false by rw [iw, jy hq, show gj p.text q = false from w1]; simp]
           exact ⟨⟨rfl, rfl⟩, zF, zB, zN, zX⟩)
        | (rw [show (d && el p.text x (d8 (decide (k = 1)) x) (i + 1)) = false by rw [iw, jy hq, show dw p.text x q = false from w2]; simp]
           exact ⟨⟨rfl, rfl⟩, zF, zB, zN, zX⟩)
        | (rw [show (d && el p.text x (d8 (decide (k = 1)) x) (i + 1)) = true by rw [iw, ← Bool.and_assoc, show (d && el p.text x (d8 (decide (k = 1)) x) i) = true from w0, jy hq, w1, w2, decide_eq_true (show i = 0 from w3)]; rfl]
           exact ⟨⟨rfl, rfl⟩, zF, zB, zN, zX⟩)
        | (rw [show (d && el p.text x (d8 (decide (k = 1)) x) (i + 1)) = decide (n7 a q < 0) by rw [iw, ← Bool.and_assoc, show (d && el p.text x (d8 (decide (k = 1)) x) i) = true from w0, jy hq, w1, w2, decide_eq_false (show ¬ i = 0 from w3), ha]; rfl]
           exact ⟨⟨rfl, rfl⟩, zF, zB, zN, zX⟩)
       exact eo
      exact eo
     exact eo
    exact eo
   replace hc := of_decide_eq_false hc
   obtain rfl : i = (d8 (decide (k = 1)) x).length := by omega
   refine c6 ?_
   refine K43 _ ?_
   refine yR ?_
   refine aa rfl (br rfl rfl rfl (by omega)) ?_
   refine yM rfl rfl ?_
   refine yN ?_
   dsimp only [St.put]
   rw [show (d && el p.text x (d8 (decide (k = 1)) x) (d8 (decide (k = 1)) x).length) = r6 p (jc p.pages j) x (k + 1) by rw [hd]; simp only [r6, wl, i6, Bool.and_assoc]]
   exact ⟨k + 1, by omega, by omega, ⟨⟨rfl, rfl⟩, zF, zB, zN, zX⟩⟩
  replace hc := of_decide_eq_false hc
  obtain rfl : k = 2 := by omega
  rw [um8]
  refine c6 ?_
  refine K39 _ ?_
  refine yS fun _ K52 => ?_
  refine yS fun _ K53 => ?_
  refine yR ?_
  refine yM rfl rfl ?_
  refine aa rfl (ei rfl rfl) ?_
  refine yN ?_
  dsimp only [St.put]
  refine K53 _ ?_
  refine aq rfl (fun hc => ?_) (fun hc => ?_)
  ·have hpg : n5 p (jc p.pages j) x = false := by simpa using hc
   have hE : dc p = 90 := uax ht (zm hx hpg)
   rw [hpg]
   refine c6 ?_
   refine K32 _ ?_
   refine yS fun _ K54 => ?_
   refine yS fun _ K55 => ?_
   refine yR ?_
   refine yM rfl rfl ?_
   refine aa rfl (ei rfl rfl) ?_
   refine yN ?_
   dsimp only [St.put]
   refine K55 _ ?_
   refine aq rfl (fun _ => ?_) (fun h => by cases h)
   refine yS fun _ K56 => ?_
   refine yR ?_
   refine yA rfl rfl ?_
   refine yA rfl rfl ?_
   refine yN ?_
   dsimp only [St.put]
   refine K56 _ ?_
   refine ar ?_
   refine ld rfl (by constructor) (by constructor) zN zS ?_ ?_
   ·rw [xg (by rw [hE]; decide)]
   rw [hE]
  have hpg : n5 p (jc p.pages j) x = true := by simpa using hc
  have hpo := pageB_true.1 hpg
  rw [hpg]
  refine ax ?_
  refine K52 _ ?_
  refine yS fun _ K57 => ?_
  refine yR ?_
  refine yF rfl rfl rfl rfl ?_
  refine yL rfl rfl rfl ?_
  refine yA rfl rfl ?_
  refine yN ?_
  dsimp only [St.put]
  refine K57 _ ?_
  refine yR ?_
  refine yM rfl rfl ?_
  refine yE rfl rfl rfl ?_
  refine yM rfl rfl ?_
  try dsimp only [St.put]
  refine ae rfl (yc rfl rfl rfl (uuv p (jc p.pages j) x ((p.pages.take j).map fun x => (fh p.text x : Int)) ((p.pages.take j).map (d7 p.text)) ((p.pages.take j).map (er p.text)) (nx + 1) (nx + 1 + 1) (nx + 1 + 1 + 1) (nx + 1 + 1 + 1 + 1) (j + j + j) ht hpo (by rw [List.length_map, List.length_take]; omega) (by rw [List.length_map, List.length_take]; omega) (by rw [List.length_map, List.length_take]; omega) _ _ (by dsimp only [St.put]; omega) (by dsimp only [St.put]; omega) (by dsimp only [St.put]; omega) (by dsimp only [St.put]; omega) (by omega) (by omega) (by omega) (by omega) (by omega) (by omega) zG zG zG zG) ?_)
  refine yN ?_
  dsimp only [St.put]
  refine K36 _ ?_
  refine yR ?_
  refine aa rfl (br rfl rfl rfl (by omega)) ?_
  refine yM rfl rfl ?_
  refine yN ?_
  dsimp only [St.put]
  rw [show j + j + j + 1 + 1 + 1 = (j + 1) + (j + 1) + (j + 1) by omega, ← sg (f := fun x => (fh p.text x : Int)) hx, ← sg (f := d7 p.text) hx, ← sg (f := er p.text) hx, ← uhs hx]
  exact ⟨j + 1, by omega, ⟨by omega, by rw [uf8, hK.2, ub8 hx, hpg]; rfl⟩, ⟨⟨rfl, rfl⟩, zF, zB, zN, zX⟩⟩
 replace hc := of_decide_eq_false hc
 obtain rfl : j = p.pages.length := by omega
 rw [List.take_length]
 have hE : dc p = 0 := utr ht (by unfold gz; rw [hRB, decide_eq_true hnp, hK.2]; rfl)
 refine c6 ?_
 refine K32 _ ?_
 refine yS fun _ K58 => ?_
 refine yS fun _ K59 => ?_
 refine yR ?_
 refine yM rfl rfl ?_
 refine aa rfl (ei rfl rfl) ?_
 refine yN ?_
 dsimp only [St.put]
 refine K59 _ ?_
 refine aq rfl (fun h => by cases h) (fun _ => ?_)
 refine ax ?_
 refine K58 _ ?_
 refine yS fun _ K60 => ?_
 refine ua1 (nx + 1) _ [lst p.text, lst p.firsts, lst p.seconds, lst p.pages, lst (p.pages.map fun x => (fh p.text x : Int)), lst (p.pages.map (d7 p.text)), lst (p.pages.map (er p.text))] zG zW ?_
 refine gg (i := 12) rfl zG (by simp) ?_
 dsimp only
 refine yR ?_
 refine yM rfl rfl ?_
 refine yA rfl rfl ?_
 refine yA rfl rfl ?_
 refine yN ?_
 dsimp only [St.put]
 refine K60 _ ?_
 refine ar ?_
 refine ld rfl (by constructor) (by constructor) zN zS ?_ ?_
 ·rw [zr hE]
 rw [hE]
end Go.Proofs.YtgffhbbcpgdjjaaGreatDoor
namespace Go.AB
open Go Go.RowKit

theorem EvR.trans {E1 E2 E3 : Env} {w1 w2 w3 : World} (h : EvR E1 w1 E2 w2) (k : EvR E2 w2 E3 w3) : EvR E1 w1 E3 w3 :=
 ⟨k.B.trans h.B, fun b => Nat.le_trans (h.L b) (k.L b), fun b i hi => (k.cell b i (Nat.lt_of_lt_of_le hi (h.L b))).trans (h.cell b i hi), Nat.le_trans h.nx k.nx, fun n hn v3 x3 y3 h3 => by
  obtain ⟨v2, x2, y2, h2, q1, q2⟩ := k.T n (Nat.lt_of_lt_of_le hn h.nx) _ _ _ h3
  obtain ⟨v1, x1, y1, h1, q3, q4⟩ := h.T n hn _ _ _ h2
  exact ⟨v1, x1, y1, h1, Nat.le_trans q3 q1, fun e => (q4 (by omega)).trans (q2 (by omega))⟩⟩
theorem EvR.drop {E E' : Env} {w w' : World} (h : EvR E w E' w') {m : Nat} (hm : E.nx ≤ m) : EvR E w (E'.drop m) w' :=
 ⟨h.B, h.L, h.cell, hm, fun n hn v x y ht => h.T n hn v x y (by
  simp only [Env.drop] at ht
  split at ht
  ·exact ht
  ·cases ht)⟩
theorem EvR.same {E : Env} {w w' : World} (hc : ∀ b i, i < E.L b → w'.cell? ⟨b, i, none⟩ = w.cell? ⟨b, i, none⟩) : EvR E w E w' :=
 ⟨rfl, fun _ => Nat.le_refl _, hc, Nat.le_refl _, fun _ _ v x y ht => ⟨v, x, y, ht, Nat.le_refl _, fun _ => rfl⟩⟩

/-- An iterator at work: what is owned when so many things have come; how many there are; what they are. -/
structure FC where
 G : Nat → Nat → Option GObj
 nx : Nat
 J : Nat → Env → World → Prop
 N : Nat
 l : Nat
 cl : Nat → List C
def FC.st (I : FC) (st : St) (k : Nat) : St := { st with G := I.G k, nx := I.nx, df := 0 }
structure FC.Ok (P : Program) (I : FC) : Prop where
 sim : ∀ {k E W}, I.J k E W → SimG E W (I.G k) I.nx
 F : ∀ {k E W}, I.J k E W → E.F ≤ W.heap.size
 ev : ∀ {k E W E' W'}, I.J k E W → Ev E W E' W' → SimG E' W' (I.G k) I.nx → I.J k E' W'
 hY : ∀ {k E W vs}, I.J k E W → k < I.N → Rs E W (I.cl k) vs → YieldAt (fen none) 1 P I.l vs.toArray W fun e W' => e = .returned (.bool true) ∧ ∃ E', EvR E W E' W' ∧ I.J (k + 1) E' W'
/-- The contract of an iterator's value, where a fact is known by a name. -/
def ua7 (nF : Nat) (F : GObj) (P : Program) (gf : Nat) (caps : List C) (N : Nat) (cl : Nat → List C) : Prop :=
 ∀ (I : FC), I.N = N → I.cl = cl → I.Ok P → (∀ k, I.G k nF = some F) → nF < I.nx → ∀ (E : Env) (w : World) (lb : List Value), I.J 0 E w → Rs E w caps lb →
  CallsIn (fen none) 2 P gf (#[.func (.yield I.l) #[] #[]] ++ lb.toArray) w fun e W' => (∃ v, e = .returned v) ∧ ∃ E', I.J N E' W'

section
variable (P : Program) (I : FC)
def FW (c : Code) (Q : Exit → St → Nat → Prop) (st : St) (k : Nat) : Prop :=
 ∀ E W a, I.J k E W → Sim E W (I.st st k) a → cwp none P c (fun e a' W' => ∃ E' st' k', I.J k' E' W' ∧ Sim E' W' (I.st st' k') a' ∧ Q e st' k') a W
def ukv (K : St → Nat → Prop) (Q : Exit → St → Nat → Prop) : Exit → St → Nat → Prop
 | .normal, st, k => K st k
 | e, st, k => Q e st k
def ukw (id : Nat) (Q : Exit → St → Nat → Prop) : Exit → St → Nat → Prop
 | .exit id', st, k => if id' = id then Q .normal st k else Q (.exit id') st k
 | e, st, k => Q e st k
def vw (ops : Array Oper) (K : St → Nat → Prop) (rest : List Oper) (st : St) (k : Nat) : Prop :=
 ∀ E W a, I.J k E W → Sim E W (I.st st k) a → ∀ Q : Exit → Act → World → Prop, (∀ a' E' W' st' k', I.J k' E' W' → Sim E' W' (I.st st' k') a' → K st' k' → Q .normal a' W') → wpListIn (fen none) 1 P ops Q rest a W
end
/-- Cells that name nothing beyond m: what stands in slots last. -/
def lowR (m : Nat) : List Nat → List (Nat × C) → Prop
 | _, [] => True
 | s, p :: r => (s.contains p.1 = true ∨ p.2.low m) ∧ lowR m (p.1 :: s) r
theorem uhi {m : Nat} {l : List C} {i : Nat} (hl : (l.getD i .any).low m) : ∀ {r : List (Nat × C)} {s : List Nat}, lowR m s r → s.contains i = false → (bz l r i).low m
 | [], _, _, _ => hl
 | p :: r, s, h, hi => by
  simp only [bz]
  cases hb : Nat.beq p.1 i
  ·rw [cond_false]
   refine uhi hl h.2 ?_
   have hne : ¬ p.1 = i := fun e => by rw [e] at hb; simp at hb
   simp only [List.contains_cons, Bool.or_eq_false_iff, beq_eq_false_iff_ne]
   exact ⟨fun e => hne e.symm, hi⟩
  ·rw [cond_true]
   have e := Nat.eq_of_beq_eq_true hb
   rcases h.1 with h1 | h1
   ·rw [e, hi] at h1; cases h1
   ·exact h1

/-- .. so what stood in slots ahead. -/
def lowN (m : Nat) (s : List Nat) : Nat → List C → Prop
 | _, [] => True
 | i, c :: l => (s.contains i = true ∨ c.low m) ∧ lowN m s (i + 1) l
theorem uhk {m : Nat} {s : List Nat} : ∀ {l : List C} {i j : Nat}, lowN m s i l → s.contains (i + j) = false → (l.getD j .any).low m
 | [], _, _, _, _ => .any
 | c :: l, i, 0, h, hs => by
  rcases h.1 with h1 | h1
  ·rw [Nat.add_zero] at hs; rw [hs] at h1; cases h1
  ·exact h1
 | c :: l, i, j + 1, h, hs => uhk (l := l) (i := i + 1) (j := j) h.2 (by rw [show i + 1 + j = i + (j + 1) by omega]; exact hs)
theorem uhj {m : Nat} {l : List C} {i : Nat} : ∀ {r : List (Nat × C)} {s : List Nat}, ((r.map (·.1)).contains i = false → (l.getD i .any).low m) → lowR m s r → s.contains i = false → (bz l r i).low m
 | [], _, hl, _, _ => hl rfl
 | p :: r, s, hl, h, hi => by
  simp only [bz]
  cases hb : Nat.beq p.1 i
  ·rw [cond_false]
   have hne : ¬ p.1 = i := fun e => by rw [e] at hb; simp at hb
   refine uhj (fun hk => hl ?_) h.2 ?_
   ·simp only [List.map_cons, List.contains_cons, Bool.or_eq_false_iff, beq_eq_false_iff_ne]
    exact ⟨fun e => hne e.symm, hk⟩
   ·simp only [List.contains_cons, Bool.or_eq_false_iff, beq_eq_false_iff_ne]
    exact ⟨fun e => hne e.symm, hi⟩
  ·rw [cond_true]
   have e := Nat.eq_of_beq_eq_true hb
   rcases h.1 with h1 | h1
   ·rw [e, hi] at h1; cases h1
   ·exact h1
/-- so that what stands in slots last names nothing beyond what is owned -/
theorem zK {p : Prop} (h : p := by (try dsimp only); repeat' (first | exact trivial | exact .inl rfl | refine ⟨?_, ?_⟩ | exact .v | exact .any | refine .inr ?_ | refine .elem ?_ | refine .agg ?_ | refine .tup ?_ | refine .fn ?_ | exact bv _ _ | exact fy _ _ | exact eu _ _ | exact fg _ (by (try dsimp only); omega) | exact .box (by (try dsimp only); omega) | exact fj | exact dq | exact e8 _ | refine ce ?_ ?_)) : p := h
section
variable {P : Program} {I : FC} {Q : Exit → St → Nat → Prop} {st : St} {k : Nat}
theorem x4 (h : Q .normal st k) : FW P I .skip Q st k := fun _ _ _ hj hs => wpIn_skip ⟨_, st, k, hj, hs, h⟩
theorem uc4 {id : Nat} (h : Q (.exit id) st k) : FW P I (.exit id) Q st k := fun _ _ _ hj hs => wpIn_exit ⟨_, st, k, hj, hs, h⟩
theorem sk {x z : Code} (h : ∀ K : St → Nat → Prop, (∀ st' k', FW P I z Q st' k' → K st' k') → FW P I x (ukv K Q) st k) : FW P I (.seq x z) Q st k := by
 intro E W a hj hs
 refine wpIn_seq (wpIn_mono (h _ (fun _ _ h => h) E W a hj hs) ?_)
 rintro e a' W' ⟨E', st', k', h1, h2, h3⟩
 cases e with
 | normal => exact h3 E' W' a' h1 h2
 | _ => exact ⟨E', st', k', h1, h2, h3⟩
theorem vg {id : Nat} {c : Code} (h : FW P I c (ukw id Q) st k) : FW P I (.block id c) Q st k := by
 intro E W a hj hs
 refine wpIn_block (wpIn_mono (h E W a hj hs) ?_)
 rintro e a' W' ⟨E', st', k', h0, h1, h2⟩
 cases e with
 | exit id' =>
  simp only [ukw] at h2
  simp only [Exit.inBlock]
  split at h2
  ·rename_i e; rw [if_pos e]; exact ⟨E', st', k', h0, h1, h2⟩
  ·rename_i e; rw [if_neg e]; exact ⟨E', st', k', h0, h1, h2⟩
 | _ => exact ⟨E', st', k', h0, h1, h2⟩
theorem x5 {c : Operand} {x z : Code} {b : Bool} (hc : evC st c = .v (.bool b)) (ht : b = true → FW P I x Q st k) (hf : b = false → FW P I z Q st k) : FW P I (.cond c x z) Q st k := by
 intro E W a hj hs
 have : evC (I.st st k) c = .v (.bool b) := hc
 exact wpIn_cond_split ((this ▸ hs.ev c).v_inv) (fun e => ht e E W a hj hs) (fun e => hf e E W a hj hs)
theorem mq {c : Code} (m : Nat) (h : FW P I c Q { st with l := firsts st.l st.r 0 m, r := [] } k) : FW P I c Q st k := fun E W a hj hs => h E W a hj (hs.wipe m)
theorem uc3 {X : Type} {c : Code} (Inv : X → Prop) (μ : X → Nat) (u : X → List (Nat × C)) (kk : X → Nat) (x0 : X) (hr : st.r = []) (h0 : Inv x0) (e0 : s9 st.l [] (u x0)) (hk : k = kk x0)
  (hu : ∀ x, Inv x → re I.nx (u x))
  (round : ∀ x, Inv x → FW P I c (ukv (fun st' k' => ∃ x', μ x' < μ x ∧ Inv x' ∧ k' = kk x' ∧ Back (I.st st k) (u x') (I.G k') (I.st st' k')) Q) { st with r := u x } (kk x)) : FW P I (.loop c) Q st k := by
 intro E W a hj hs
 refine udb (fun m a1 W1 => ∃ x E1, m = μ x ∧ Inv x ∧ I.J (kk x) E1 W1 ∧ Sim E1 W1 (I.st { st with r := u x } (kk x)) a1) (μ x0) ⟨x0, E, rfl, h0, hk ▸ hj, ?_⟩ ?_
 ·have := le_r (n := st.n) (G := I.G k) (nx := I.nx) (df := 0) e0 rfl E W a (by rw [← hr]; exact hs)
  rw [← hk]
  exact this
 ·rintro m a1 W1 ⟨x, E1, rfl, hI, hj1, hs1⟩
  refine wpIn_mono (round x hI E1 W1 a1 hj1 hs1) ?_
  rintro e a' W' ⟨E', st', k', h1, h2, h3⟩
  cases e with
  | normal =>
   obtain ⟨x', q1, q2, rfl, q3⟩ := h3
   refine ⟨μ x', q1, x', E', rfl, q2, h1, ?_⟩
   refine ⟨by have := h2.d; exact this, h2.sz.trans (show st'.n = st.n from q3.n.1), fun i v hv => ?_, h2.g⟩
   have hcl : bz st.l (u x') i = .any ∨ bz st.l (u x') i = bz st'.l st'.r i := by
    by_cases hi : i < st.l.length
    ·rcases uao _ _ q3.fits i (Nat.zero_le _) (by show i < 0 + st.l.length; omega) with h | h
     ·exact .inl h
     ·exact .inr h.symm
    ·rcases xy st.l (u x') i with ⟨p, hp, he, he2⟩ | ⟨_, he⟩
     ·rcases q3.keys with hk | hk
      ·have : p.1 < st.l.length := uad hk p hp
       omega
      ·rcases uan hk p hp with h | h
       ·left; rw [he2, h]
       ·right; rw [he2, ← h, he]; rfl
     ·left; rw [he, List.getD_eq_getElem?_getD, List.getElem?_eq_none (by omega)]; rfl
   show R E' W' (bz st.l (u x') i) v
   rcases hcl with h | h
   ·rw [h]; exact .any
   ·rw [h]; exact h2.t i v hv
  | _ => exact ⟨E', st', k', h1, h2, h3⟩
/-- What plain code must leave. -/
def SegP (I : FC) (k : Nat) (l : List C) (n : Nat) (st' : St) : Prop := st'.df = 0 ∧ st'.n = n ∧ (st'.l = l ∨ lowN I.nx (st'.r.map (·.1)) 0 st'.l) ∧ I.nx ≤ st'.nx ∧ (∀ n o, I.G k n = some o → st'.G n = some o) ∧ lowR I.nx [] st'.r
theorem ue5 (ok : I.Ok P) {E : Env} {W : World} {a : Act} (hj : I.J k E W) (hs : Sim E W (I.st st k) a) (hr : st.r = []) {E' : Env} {W' : World} {st' : St} {a' : Act} (h1 : Ev E W E' W') (h2 : Sim E' W' st' a') (h3 : SegP I k st.l st.n st') : I.J k (E'.drop I.nx) W' ∧ Sim (E'.drop I.nx) W' (I.st st' k) a' := by
 obtain ⟨q1, q2, q3, q4, q5, q6⟩ := h3
 have hnx : E.nx = I.nx := hs.g.nx
 have hlow := hs.lowG
 have hgl : ∀ n o, I.G k n = some o → n < I.nx ∧ o.low I.nx := hlow
 have hll : ∀ i, i < st.n → (st.l.getD i .any).low I.nx := fun i hi => by
  have := hs.low i hi
  have e : bz (I.st st k).l (I.st st k).r i = st.l.getD i .any := by show bz st.l st.r i = _; rw [hr]; rfl
  rw [e] at this
  exact this
 have hs' := h2.dropTo (st' := I.st st' k) rfl q1.symm q4 (fun i hi => .inr ⟨rfl, by
  rcases q3 with q3 | q3
  ·exact uhi (q3 ▸ hll i (q2 ▸ hi)) q6 rfl
  ·exact uhj (fun hk => uhk (i := 0) q3 (by rw [Nat.zero_add]; exact hk)) q6 rfl⟩) (fun n o ho => ⟨q5 n o ho, hgl n o ho⟩)
 exact ⟨ok.ev hj (h1.drop (by omega)) hs'.g, hs'⟩
/-- Plain code. -/
theorem uc2 (ok : I.Ok P) {c : Code} (hr : st.r = []) (h : AW none P c (fun e st' => SegP I k st.l st.n st' ∧ Q e st' k) (I.st st k)) : FW P I c Q st k := by
 intro E W a hj hs
 refine i0 ?_ (h E W a hs)
 rintro e a' W' ⟨st', E', h1, h2, h3⟩
 obtain ⟨q1, q2⟩ := ue5 ok hj hs hr h1 h2 h3.1
 exact ⟨_, st', k, q1, q2, h3.2⟩
/-- .. so many pieces of it: what lies between. -/
def lu (P : Program) (I : FC) (z : Code) (Q : Exit → St → Nat → Prop) (k : Nat) (st0 st1 : St) : Prop :=
 ∀ E0 W0 a0 E1 W1 a1, I.J k E0 W0 → Sim E0 W0 (I.st st0 k) a0 → Ev E0 W0 E1 W1 → Sim E1 W1 st1 a1 → cwp none P z (fun e a' W' => ∃ E' st' k', I.J k' E' W' ∧ Sim E' W' (I.st st' k') a' ∧ Q e st' k') a1 W1
theorem sl {x z : Code} (h : AW none P x (qm (lu P I z Q k st) fun _ _ => False) (I.st st k)) : FW P I (.seq x z) Q st k := by
 intro E W a hj hs
 refine wpIn_seq (i0 ?_ (h E W a hs))
 rintro e a1 W1 ⟨st1, E1, h1, h2, h3⟩
 cases e with
 | normal => exact h3 E W a E1 W1 a1 hj hs h1 h2
 | _ => exact h3.elim
theorem uam {x z : Code} {st1 : St} (h : AW none P x (qm (lu P I z Q k st) fun _ _ => False) st1) : lu P I (.seq x z) Q k st st1 := by
 intro E0 W0 a0 E1 W1 a1 hj hs hev hs1
 refine wpIn_seq (i0 ?_ (h E1 W1 a1 hs1))
 rintro e a2 W2 ⟨st2, E2, h1, h2, h3⟩
 cases e with
 | normal => exact h3 E0 W0 a0 E2 W2 a2 hj hs (hev.trans h1) h2
 | _ => exact h3.elim
theorem sn (ok : I.Ok P) {z : Code} {st1 : St} (hr : st.r = []) (hp : SegP I k st.l st.n st1) (h : FW P I z Q st1 k) : lu P I z Q k st st1 := by
 intro E0 W0 a0 E1 W1 a1 hj hs hev hs1
 obtain ⟨q1, q2⟩ := ue5 ok hj hs hr hev hs1 hp
 exact h _ W1 a1 q1 q2
theorem uia {id : Nat} {l : List Oper} (h : vw P I l.toArray (Q .normal) l st k) : FW P I (.region id l.toArray false) Q st k := fun E W a hj hs =>
 wpIn_region_lit (h E W a hj hs _ fun a' E' W' st' k' h0 h1 h2 => ⟨E', st', k', h0, h1, h2⟩)
variable {ops : Array Oper} {K : St → Nat → Prop} {rest : List Oper} {o : Oper} {c : C}
theorem uif (h : K st k) : vw P I ops K [] st k := fun E W a hj hs _ hq => wpListIn_nil (hq a E W st k hj hs h)
theorem tx (hg : fl ops st o = some true) (hq : NStep P o (I.st st k) c) (h : vw P I ops K rest (st.put o.dst c) k) : vw P I ops K (o :: rest) st k := by
 intro E W a hj hs Q hQ
 have hg' : fl ops (I.st st k) o = some true := hg
 refine wpListIn_step fun Kr hK => ?_
 rw [if_pos (ng hg' hs)]
 obtain ⟨v, h1, h2⟩ := hq E W a hs
 refine uce (uak hg).2 ?_
 unfold Oper.wp
 rw [h2 W]
 have hp := hs.put o.dst h1
 exact hK _ _ (h E W _ hj (by cases hd : o.dst <;> (rw [hd] at hp; exact hp)) Q hQ)
/-- A call of yield. -/
theorem uie (ok : I.Ok P) {fv : Operand} {args : List Operand} {ats : Array TypeId} {cs : List C} (hk : k < I.N) (hg : fl ops st o = some true) (ho : o.op = .call { callee := .value fv, args := args.toArray, argTypes := ats }) (hf : evC st fv = .v (.func (.yield I.l) #[] #[])) (has : args.map (evC st) = cs) (hcs : cs = I.cl k)
  (h1 : vw P I ops K rest (st.put o.dst (.v (.bool true))) (k + 1)) : vw P I ops K (o :: rest) st k := by
 intro E W a hj hs Q hQ
 have hg' : fl ops (I.st st k) o = some true := hg
 have hf' : evC (I.st st k) fv = .v (.func (.yield I.l) #[] #[]) := hf
 refine wpListIn_step fun Kr hK => ?_
 rw [if_pos (ng hg' hs)]
 have hfv := (hf' ▸ hs.ev fv).v_inv
 subst hcs
 have hra : Rs E W (I.cl k) (args.map a.eval) := by
  rw [← has]
  refine ⟨by simp, fun j c v h1 h2 => ?_⟩
  rw [List.getElem?_map] at h1 h2
  cases hx : args[j]? with
  | none => rw [hx] at h1; cases h1
  | some x =>
   rw [hx] at h1 h2
   simp only [Option.map_some, Option.some.injEq] at h1 h2
   subst h1; subst h2
   exact hs.ev x
 obtain ⟨fn, tmps, assign, body, hy, hR⟩ := ok.hY hj hk hra
 refine ⟨fun _ _ => trivial, ?_⟩
 rw [Oper.semAt_eq _ _ _ (uak hg).2]
 have hrun : (execOp a.eval o).run P W = .ok (.round I.l fn tmps assign body) W := by
  simp only [execOp, ho, resolve, hfv]
  simp [Deferred.ofValue, invoke]
  simpa using hy
 rw [hrun]
 refine ⟨fun e => (by cases e), uoc (hR.mono ?_)⟩
 rintro e W' ⟨rfl, E', h3, h4⟩
 refine hK _ _ (h1 E' W' _ h4 ?_ Q hQ)
 have hdef : a.defers = [] := List.eq_nil_of_length_eq_zero hs.d.2
 have hs' : Sim E' W' (I.st st (k + 1)) a := by
  refine ⟨⟨?_, hs.d.2⟩, hs.sz, fun i v hv => (hs.t i v hv).evr h3, ok.sim h4⟩
  rw [hdef]
  exact ok.F h4
 have hp := hs'.put o.dst (c := .v (.bool true)) (v := .bool true) (.v rfl)
 cases hd : o.dst <;> (rw [hd] at hp; exact hp)
end
theorem Rs.evr2 {E E' : Env} {w w' : World} {cs : List C} {vs : List Value} (h : Rs E w cs vs) (k : Ev E w E' w') : Rs E' w' cs vs := ⟨h.1, fun j c v h1 h2 => (h.2 j c v h1 h2).ev k⟩
theorem uhz {nF : Nat} {F : GObj} {P : Program} {gf : Nat} {fn : Func} {c : Code} {caps : List C} {N : Nat} {cl : Nat → List C} (hf : P.funcs[gf]? = some fn) (hb : fn.body = some c) (hr : fn.results = #[])
  (h : ∀ I : FC, I.N = N → I.cl = cl → I.Ok P → (∀ k, I.G k nF = some F) → nF < I.nx →
   FW P I c (fun e _ k => (e = .normal ∨ e = .ret) ∧ k = N) { n := caps.length + 1 + (fn.ntmps - (caps.length + 1)), l := .v (.func (.yield I.l) #[] #[]) :: caps, r := [], G := noG, nx := 0 } 0) : ua7 nF F P gf caps N cl := by
 intro I hN hcl ok hG hn E w lb hj hrs
 have hargs : Rs E w (.v (.func (.yield I.l) #[] #[]) :: caps) (.func (.yield I.l) #[] #[] :: lb) := Rs.cons (.v rfl) hrs
 have hsim := Sim.start hargs (ok.sim hj) (ok.F hj) fn.ntmps
 have e1 : (#[.func (.yield I.l) #[] #[]] ++ lb.toArray : Array Value) = (.func (.yield I.l) #[] #[] :: lb).toArray := by simp
 rw [e1]
 have hw := h I hN hcl ok hG hn E w _ hj (show Sim E w (FC.st I _ 0) _ by unfold FC.st; simpa using hsim)
 refine callsIn_of_wp_marks hf hb trivial (wpIn_mono (ujk (m := 2) hw) ?_)
 rintro e a' w' ⟨E', st', k', q1, q2, q3, rfl⟩
 have hd : a'.defers = [] := List.eq_nil_of_length_eq_zero q2.d.2
 have fin : bodyPostM (fen none) 2 P fn (fun e W' => (∃ v, e = .returned v) ∧ ∃ E', I.J k' E' W') .ret a' w' := by
  show LeavesInM (fen none) 2 P fn a'.tmps _ a'.defers .returning w'
  rw [hd]
  exact ⟨_, results_none hr _ _ _, ⟨_, rfl⟩, E', q1⟩
 rcases q3 with rfl | rfl
 ·exact fin
 ·exact fin

def yl (J : Nat → Nat → Option GObj) (k : Nat) (e : Exit) (st : St) : Prop :=
 match e with
 | .normal => ∀ n o, J k n = some o → st.G n = some o
 | _ => False
theorem uj3 {P : Program} {nF : Nat} {F : GObj} {N : Nat} {g : Operand} {ps : Array Tmp} {assign body : Code} {Q : Exit → St → Prop} {st : St} {gf : Nat} [Fun P gf] {caps : List C} {cl : Nat → List C} (pl : List Tmp)
  (J : Nat → Nat → Option GObj) (u : Nat → List (Nat × C)) (it : ua7 nF F P gf caps N cl) (hJF : ∀ k, J k nF = some F) (hnF : nF < st.nx)
  (hg : evC st g = .fn (.func gf) caps) (hps : ps = pl.toArray) (hlen : ∀ k, (cl k).length = pl.length)
  (hu : ∀ k, putL pl (cl k) { st with G := J k, df := 0 } = { st with r := u k, G := J k, df := 0 })
  (h0 : ∀ n o, J 0 n = some o → st.G n = some o) (hJ : ∀ k n o, J k n = some o → st.G n = some o ∨ (n < st.nx ∧ o.low st.nx))
  (round : ∀ l k, k < N → AW (some l) P assign (qm (AW (some l) P body (yl J (k + 1))) fun _ _ => False) { st with r := u k, G := J k, df := 0 })
  (done : Q .normal { st with G := J N, df := st.df + 1 }) : AW none P (.rangeFunc g ps assign body) Q st := by
 intro E w a hs
 obtain ⟨vs, hgv, hvs⟩ := (hg ▸ hs.ev g).fn_inv
 have hlow : ∀ {G : Nat → Option GObj}, (∀ n o, G n = some o → st.G n = some o ∨ (n < st.nx ∧ o.low st.nx)) → ∀ n o, G n = some o → n < st.nx ∧ o.low st.nx := fun h n o ho => by
  rcases h n o ho with h1 | h1
  ·exact hs.lowG n o h1
  ·exact h1
 have hF : E.F ≤ w.heap.size := hs.d.F
 have hnx := hs.g.nx
 have simAt : ∀ {E1 : Env} {W : World} {G : Nat → Option GObj} {ds : List Deferred} {k : Nat}, Ev E w E1 W → SimG E1 W G st.nx → DefN E1 W k ds → Sim E1 W { st with G := G, df := k } { a with defers := ds } := fun hev hg1 hd =>
  ⟨hd, hs.sz, fun i v hv => (hs.t i v hv).ev hev, hg1⟩
 have marked : ∀ {E1 : Env} {W : World} {D : Nat}, Ev E w E1 W → (∀ n t, E1.T n = some t → n < st.nx) → NCB st.nx w.heap.size E1 W → w.heap.size ≤ D → W.heap[D]? = some (.deferred (some [])) → DefN E1 W (st.df + 1) ({ target := .collected D, args := #[] } :: a.defers) := fun {E1 W D} hev hlt hn hD hK => by
  refine ⟨⟨⟨D, rfl, by rw [hev.x.F]; omega, hK, fun n t ht hb => ?_, ?_⟩, (hs.d.ev hev).1⟩, by simp [hs.d.2]⟩
  ·have := hn n t D _ (hlt n t ht) ht hb hK rfl
   omega
  ·have : ∀ {ds : List Deferred}, DefOk E w ds → ∀ d' ∈ ds, d'.target ≠ .collected D := by
    intro ds
    induction ds with
    | nil => exact fun _ d' h => by cases h
    | cons d ds ih =>
     rintro ⟨⟨D', e', _, h2, _⟩, k⟩ d' hd'
     rcases List.mem_cons.1 hd' with rfl | hd'
     ·rw [e']
      intro e
      simp only [Target.collected.injEq] at e
      have := (Array.getElem?_eq_some_iff.1 h2).1
      omega
     ·exact ih k d' hd'
   exact this hs.d.1
 refine ujk (n := 3) (wpIn_rangeFunc fun fn _ => ?_)
 -- the loop's record and the block for deferred calls
 obtain ⟨rc, hrc⟩ : ∃ rc : LoopState → Option Code → Loop, rc = fun s pe => { state := s, pending := pe, fn, tmps := a.tmps, params := ps, assign, body, defers := w.heap.size } := ⟨_, rfl⟩
 obtain ⟨W1, hW1⟩ : ∃ W1, (w.alloc (.deferred (some []))).alloc (.loop (rc .ready none)) = W1 := ⟨_, rfl⟩
 have sz1 : W1.heap.size = w.heap.size + 2 := by rw [← hW1]; simp
 have gr1 : w.grownBy W1 none := by
  refine ⟨by rw [← hW1]; rfl, by rw [← hW1]; rfl, by rw [← hW1]; rfl, by omega, fun k hk _ => ?_⟩
  rw [← hW1, Below.heap_alloc _ _ _ (by simp; omega), Below.heap_alloc _ _ _ hk]
 have recs : W1.heap[w.heap.size + 1]? = some (.loop (rc .ready none)) ∧ W1.heap[w.heap.size]? = some (.deferred (some [])) := by
  rw [← hW1]
  refine ⟨by have := World.alloc_heap_new (w.alloc (.deferred (some []))) (.loop (rc .ready none)); simpa using this, ?_⟩
  rw [Below.heap_alloc _ _ _ (by simp)]
  exact World.alloc_heap_new w _
 have own1 : OwnW E w (J 0) st.nx W1 := OwnW.turn hs.g ⟨E, Ev.refl E w, hs.g.weak h0, fun n t b o _ ht hb _ _ => (hs.g.tb n t.1 t.2.1 t.2.2 b ht hb).2⟩ gr1 (fun r e => by cases e)
 refine ⟨w.heap.size + 1, [{ target := .collected w.heap.size, args := #[] }], W1, { target := .fn (.func gf) vs.toArray, args := #[.func (.yield (w.heap.size + 1)) #[] #[]] }, W1, gf, #[.func (.yield (w.heap.size + 1)) #[] #[]] ++ vs.toArray, W1, ?_, ?_, fun _ _ => trivial, ?_, fun e => (by cases e), ?_⟩
 ·rw [← hW1, hrc]; exact run_enterLoop_outer _ _ _ _ _
 ·simp only [resolve, hgv]; simp [go_sem]
 ·simp [invoke, go_sem, ubv]
 have below1 : Below w.heap.size w W1 := ⟨gr1.os, gr1.tape, gr1.output, gr1.size, fun k hk => gr1.block k hk (by simp)⟩
 obtain ⟨E0, hev0, hsg0, hn0⟩ := own1
 have unt : ∀ {E1 : Env} {W : World} {k : Nat} {G : Nat → Option GObj} {o : Obj}, SimG E1 W G st.nx → NCB st.nx w.heap.size E1 W → w.heap.size ≤ k → W.heap[k]? = some o → o.isCells = false → ∀ n t, E1.T n = some t → blk t.2.2 ≠ some k := fun {E1 W k G o} hs1 hn hk' ho hf n t ht hb => by
  have hE1 : E1.nx = st.nx := hs1.nx
  have := hn n t k o (hE1 ▸ hs1.lt n t ht) ht hb ho hf
  omega
 obtain ⟨I, hI⟩ : ∃ I : FC, I = { G := J, nx := st.nx, N := N, l := w.heap.size + 1, cl := cl, J := fun k E1 W => Ev E w E1 W ∧ SimG E1 W (J k) st.nx ∧ NCB st.nx w.heap.size E1 W ∧ W.heap[w.heap.size + 1]? = some (.loop (rc .ready none)) ∧ W.heap[w.heap.size]? = some (.deferred (some [])) } := ⟨_, rfl⟩
 have hIJ : ∀ k E1 W, I.J k E1 W = (Ev E w E1 W ∧ SimG E1 W (J k) st.nx ∧ NCB st.nx w.heap.size E1 W ∧ W.heap[w.heap.size + 1]? = some (.loop (rc .ready none)) ∧ W.heap[w.heap.size]? = some (.deferred (some []))) := fun k E1 W => by rw [hI]
 have ok : I.Ok P := by
  refine ⟨fun {k E1 W} h => ?_, fun {k E1 W} h => ?_, fun {k E1 W E2 W2} h h1 h2 => ?_, ?_⟩
  ·rw [hIJ] at h; rw [hI]; exact h.2.1
  ·rw [hIJ] at h
   rw [h.1.x.F]; exact Nat.le_trans hF h.1.below.size
  ·rw [hIJ] at h ⊢
   rw [hI] at h2
   obtain ⟨q1, q2, q3, q4, q5⟩ := h
   have hE1 : E1.nx = st.nx := q2.nx
   exact ⟨q1.trans h1, h2, q3.step (by omega) q2 h1, h1.x.oth _ _ q4 (unt q2 q3 (by omega) q4 rfl), h1.x.oth _ _ q5 (unt q2 q3 (Nat.le_refl _) q5 rfl)⟩
  -- a round
  rintro k E1 W us hj hkN hcl
  rw [hIJ] at hj
  obtain ⟨hev, hs1, hn, hl, hk⟩ := hj
  have hkN' : k < N := by rw [hI] at hkN; exact hkN
  replace hcl : Rs E1 W (cl k) us := by rw [hI] at hcl; exact hcl
  have hul : us.length = pl.length := by rw [hcl.1]; exact hlen k
  have hE1 : E1.nx = st.nx := hs1.nx
  have unt : ∀ {k : Nat} {o : Obj}, w.heap.size ≤ k → W.heap[k]? = some o → o.isCells = false → ∀ n t, E1.T n = some t → blk t.2.2 ≠ some k := fun h1 h2 h3 => unt hs1 hn h1 h2 h3
  have hIl : I.l = w.heap.size + 1 := by rw [hI]
  rw [hIl]
  have hy := run_yield (P := P) (args := us.toArray) hl (by rw [hrc]; simp [hps, hul])
  rw [hrc] at hy
  refine ⟨fn, _, assign, body, hy, roundIn_of_wpIn trivial ?_⟩
  clear hy
  have ha0 : ({ tmps := (ps.zip us.toArray).foldl (fun t (p, v) => t.setIfInBounds p v) a.tmps, defers := [] } : Act) = wz pl us { tmps := a.tmps, defers := [] } := by
   rw [ufv, hps]
   simp
  have hF1 : E1.F ≤ W.heap.size := by rw [hev.x.F]; exact Nat.le_trans hF hev.below.size
  have hsim := ue2 pl hcl (simAt (ds := []) (k := 0) hev hs1 ⟨hF1, rfl⟩)
  rw [hu k] at hsim
  show assign.wpIn (fen (some (w.heap.size + 1))) 1 P _ { tmps := (ps.zip us.toArray).foldl (fun t (p, v) => t.setIfInBounds p v) a.tmps, defers := [] } W
  rw [ha0]
  refine wpIn_mono (round (w.heap.size + 1) k hkN' E1 W _ hsim) ?_
  rintro e a1 Wa ⟨st1, E2, q1, q2, q3⟩
  cases e with
  | normal =>
   have hla := q1.x.oth _ _ hl (unt (by omega) hl rfl)
   have hka := q1.x.oth _ _ hk (unt (Nat.le_refl _) hk rfl)
   have hlta := (Array.getElem?_eq_some_iff.1 hla).1
   refine ⟨_, run_beginRound hla (by rw [hrc]), ?_⟩
   -- the record is busy
   have unt2 : ∀ {k : Nat} {o : Obj}, w.heap.size ≤ k → W.heap[k]? = some o → o.isCells = false → ∀ n t, E2.T n = some t → blk t.2.2 ≠ some k := fun {k o} hk' ho hf n t ht hb => by
    obtain ⟨t0, h1, h2⟩ := q1.x.nb n t k o ht hb ho
    exact unt hk' ho hf n t0 h1 h2
   obtain ⟨Wb, hWb⟩ : ∃ Wb, Wa.putObj (w.heap.size + 1) (.loop { rc .ready none with state := .busy }) = Wb := ⟨_, rfl⟩
   rw [hWb]
   have grb : Wa.grownBy Wb (some (w.heap.size + 1)) := hWb ▸ grownBy_putObj' _ _ _
   have hlb : Wb.heap[w.heap.size + 1]? = some (.loop { rc .ready none with state := .busy }) := hWb ▸ World.putObj_heap_same hlta
   have hkb : Wb.heap[w.heap.size]? = some (.deferred (some [])) := (grb.block _ (Array.getElem?_eq_some_iff.1 hka).1 (by simp)).trans hka
   obtain ⟨evb, hcellb⟩ := (hev.trans q1).turn hs.g q2.g.fresh grb (fun r e => by cases e; exact ⟨by omega, _, hla, rfl⟩)
   have hblkb : ∀ n t b, E2.T n = some t → blk t.2.2 = some b → Wb.heap[b]? = Wa.heap[b]? := fun n t b ht hb => by
    refine grb.block b (q2.g.tb n t.1 t.2.1 t.2.2 b ht hb).2 fun e => ?_
    simp only [Option.some.injEq] at e
    subst e
    exact unt2 (by omega) hl rfl n t ht hb
   have gb := q2.g.heap hcellb hblkb grb.size
   have db : DefN E2 Wb st1.df a1.defers := by
    have : ∀ {ds : List Deferred}, DefOk E2 Wa ds → DefOk E2 Wb ds := by
     intro ds
     induction ds with
     | nil => exact fun h => Nat.le_trans h grb.size
     | cons d ds ih =>
      rintro ⟨⟨D', e', h1, h2, h3, h4⟩, k⟩
      refine ⟨⟨D', e', h1, (grb.block D' (Array.getElem?_eq_some_iff.1 h2).1 fun e => ?_).trans h2, h3, h4⟩, ih k⟩
      simp only [Option.some.injEq] at e
      subst e
      rw [hla] at h2; cases h2
    exact ⟨this q2.d.1, q2.d.2⟩
   have simb : Sim E2 Wb st1 a1 := ⟨db, q2.sz, fun i v hv => (q2.t i v hv).same (fun _ => Nat.le_refl _) hcellb rfl rfl, gb⟩
   have nb2 : NCB st.nx w.heap.size E2 Wb := fun n t b o hm ht hb ho hf => by
    have := hblkb n t b ht hb
    exact hn.step (by omega) hs1 q1 n t b o hm ht hb (this.symm.trans ho) hf
   have hm2 : st.nx ≤ E2.nx := hE1 ▸ q1.nx
   refine wpIn_mono (q3 E2 Wb a1 simb) ?_
   rintro e a3 W3 ⟨st', E3, r1, r2, r3⟩
   have hl3 := r1.x.oth _ _ hlb (unt2 (by omega) hl rfl)
   have hk3 := r1.x.oth _ _ hkb (unt2 (Nat.le_refl _) hk rfl)
   have nb3 := nb2.step hm2 gb r1
   have own : ∀ {Gk : Nat → Option GObj}, (∀ n o, Gk n = some o → st'.G n = some o) → (∀ n o, Gk n = some o → n < st.nx ∧ o.low st.nx) → OwnW E w Gk st.nx W3 := fun {Gk} hsub hlw =>
    ⟨E3.drop st.nx, (evb.trans r1).drop (by omega), (r2.g.weak hsub).drop hlw, fun n t b o hm ht hb ho hf => nb3 n t b o hm (by simp only [Env.drop] at ht; rw [if_pos hm] at ht; exact ht) hb ho hf⟩
   -- the end of the round
   have fin : ∀ (jump : Option Code), (Instr.endRound (w.heap.size + 1) jump).run P W3 = .ok (.bool jump.isNone) (W3.putObj (w.heap.size + 1) (.loop (rc (if jump.isNone then .ready else .done) jump))) ∧
     (W3.putObj (w.heap.size + 1) (.loop (rc (if jump.isNone then .ready else .done) jump))).heap[w.heap.size + 1]? = some (.loop (rc (if jump.isNone then .ready else .done) jump)) ∧
     (W3.putObj (w.heap.size + 1) (.loop (rc (if jump.isNone then .ready else .done) jump))).heap[w.heap.size]? = some (.deferred (some [])) := fun jump => by
    refine ⟨?_, World.putObj_heap_same (Array.getElem?_eq_some_iff.1 hl3).1, (World.putObj_heap_other (by omega)).trans hk3⟩
    have := run_endRound (P := P) jump hl3
    rw [hrc] at this ⊢
    exact this
   have keep : ∀ jump, uku E W (W3.putObj (w.heap.size + 1) (.loop (rc (if jump.isNone then .ready else .done) jump))) := fun jump => ⟨by
    rw [World.putObj_size]
    exact Nat.le_trans q1.below.size (Nat.le_trans grb.size r1.below.size), fun b i hi => by
    have hne : b ≠ w.heap.size + 1 := fun e => by subst e; rw [hs.g.fresh _ (by omega)] at hi; omega
    refine (World.cell?_of_block (w := W3) (World.putObj_heap_other hne)).trans ?_
    have h1 : i < E1.L b := Nat.lt_of_lt_of_le hi (hev.L b)
    have h2 : i < E2.L b := Nat.lt_of_lt_of_le h1 (q1.L b)
    exact (r1.cell b i h2).trans ((hcellb b i h2).trans (q1.cell b i h1))⟩
   cases e with
   | normal =>
    obtain ⟨h1, h2, h3⟩ := fin none
    have hjm : ∀ n o, J (k + 1) n = some o → n < st.nx ∧ o.low st.nx := hlow (hJ _)
    have hown : OwnW E w (J (k + 1)) st.nx W3 := own r3 hjm
    have hevd : Ev E w (E3.drop st.nx) W3 := (evb.trans r1).drop (by omega)
    have hsgd : SimG (E3.drop st.nx) W3 (J (k + 1)) st.nx := (r2.g.weak r3).drop hjm
    have hncd : NCB st.nx w.heap.size (E3.drop st.nx) W3 := fun n t b o hm ht hb ho hf => nb3 n t b o hm (by simp only [Env.drop] at ht; rw [if_pos hm] at ht; exact ht) hb ho hf
    obtain ⟨W4, hW4⟩ : ∃ W4, W3.putObj (w.heap.size + 1) (.loop (rc (if (none : Option Code).isNone then .ready else .done) none)) = W4 := ⟨_, rfl⟩
    have gr4 : W3.grownBy W4 (some (w.heap.size + 1)) := hW4 ▸ grownBy_putObj' _ _ _
    have hrow : ∀ r, some (w.heap.size + 1) = some r → w.heap.size ≤ r ∧ ∃ o : Obj, W3.heap[r]? = some o ∧ o.isCells = false := fun r e => by cases e; exact ⟨by omega, _, hl3, rfl⟩
    obtain ⟨ev4, hcell4⟩ := hevd.turn hs.g hsgd.fresh gr4 hrow
    have unt3 : ∀ n t b, (E3.drop st.nx).T n = some t → blk t.2.2 = some b → W4.heap[b]? = W3.heap[b]? := fun n t b ht hb => by
     refine gr4.block b (hsgd.tb n t.1 t.2.1 t.2.2 b ht hb).2 fun e => ?_
     simp only [Option.some.injEq] at e
     subst e
     have := hncd n t _ _ (hsgd.nx ▸ hsgd.lt n t ht) ht hb hl3 rfl
     omega
    have hsg4 : SimG (E3.drop st.nx) W4 (J (k + 1)) st.nx := hsgd.heap hcell4 unt3 gr4.size
    have hnc4 : NCB st.nx w.heap.size (E3.drop st.nx) W4 := fun n t b o hm ht hb ho hf => hncd n t b o hm ht hb ((unt3 n t b ht hb).symm.trans ho) hf
    rw [hW4] at h1 h2 h3
    refine ⟨_, _, h1, rfl, E3.drop st.nx, ?_, ?_⟩
    ·have t1 : EvR E1 W E2 Wb := q1.r.trans (EvR.same hcellb)
     have t2 : EvR E1 W (E3.drop st.nx) W3 := (t1.trans r1.r).drop (by omega)
     exact t2.trans (EvR.same hcell4)
    ·rw [hIJ]
     exact ⟨ev4, hsg4, hnc4, h2, h3⟩
   | _ => exact r3.elim
  | _ => exact q3.elim
 have hcall := it I (by rw [hI]) (by rw [hI]) ok (fun k => by rw [hI]; exact hJF k) (by rw [hI]; exact hnF) E0 W1 vs (by rw [hIJ]; exact ⟨hev0, hsg0, hn0, recs.1, recs.2⟩) (hvs.evr2 hev0)
 rw [show I.l = w.heap.size + 1 by rw [hI]] at hcall
 refine hcall.mono ?_
 -- behind the iterator
 rintro e W2 ⟨⟨v, rfl⟩, E1, hj⟩
 rw [hIJ] at hj
 obtain ⟨hevj, hsj, hnj, hl, hk⟩ := hj
 have hI2 : OwnW E w (J N) st.nx W2 := ⟨E1, hevj, hsj, hnj⟩
 obtain ⟨E1, hev, hs1, hn⟩ := hI2.put hs.g (by omega) hl rfl (.loop { rc .ready none with state := .exhausted })
 have hK : (W2.putObj (w.heap.size + 1) (.loop { rc .ready none with state := .exhausted })).heap[w.heap.size]? = some (.deferred (some [])) := (World.putObj_heap_other (by omega)).trans hk
 exact ⟨none, _, by have := run_endLoop (P := P) hl (by rw [hrc]; simp); rw [hrc] at this ⊢; exact this, _, E1, hev, simAt hev hs1 (marked hev (fun n t ht => hs1.nx ▸ hs1.lt n t ht) hn (Nat.le_refl _) hK), done⟩
end Go.AB
namespace Go.AB
open Go Go.RowKit
open Go.AB.Enc (cells)
open Go.PB (ay aj PlaceD bg bi bh bn ak ah cr bq dr dt)
/-- how many readers are ahead of a side -/
def sdN (p : ah) : Nat → Nat
 | 0 => 0
 | 1 => p.firsts.length
 | _ => p.firsts.length + p.seconds.length
theorem ubs {p : ah} : ∀ {k : Nat}, k < 2 → sdN p (k + 1) = sdN p k + (cy p (decide (k = 1))).length
 | 0, _ => (Nat.zero_add _).symm
 | 1, _ => rfl
 | k + 2, h => by omega
theorem ure {p : ah} : ∀ {k i : Nat}, k < 2 → i < (cy p (decide (k = 1))).length → dh p (sdN p k + i) = ne p (decide (k = 1)) i ∧ sdN p k + i < co p
 | 0, i, _, h => by
  have h : i < p.firsts.length := h
  rw [show sdN p 0 + i = i from Nat.zero_add i]
  unfold dh co
  rw [decide_eq_true h]
  exact ⟨rfl, by omega⟩
 | 1, i, _, h => by
  have h : i < p.seconds.length := h
  rw [show sdN p 1 + i = p.firsts.length + i from rfl]
  unfold dh co
  rw [decide_eq_false (by omega), Nat.add_sub_cancel_left]
  exact ⟨rfl, by omega⟩
 | k + 2, _, h, _ => by omega
end Go.AB
namespace Go.Proofs.YtgffhbbcpgdjjaaGreatDoor
set_option maxRecDepth 10000
open Go Go.RowKit Go.AB
open Go.AB.Enc (cells)
open Go.PB (ay aj PlaceD bg bi bh bn ak ah cr bq dr dt)
set_option maxHeartbeats 1000000 in
theorem urd (nF : Nat) (p : ah) (h : et p) : ua7 nF f8 Tryz.prog 93 [.elem [.elem (mh p)]] (co p) (fun k => [.v (.int .i64 (dh p k))]) := by
 refine uhz Tryz.func93 rfl rfl fun I hN hcl ok hG hn => ?_
 simp only [Tryz.ntmps93, List.length_cons, List.length_nil, Nat.reduceAdd, Nat.reduceSub]
 have hn1 := h.nf
 have hn2 := h.ns
 refine mq 2 ?_
 refine zQ ?_
 refine sl ?_
 dsimp only [FC.st]
 refine cb fun hlt => ?_
 dsimp only at hlt
 refine cx ?_
 try dsimp only [St.put]
 refine bk rfl (pp (n := 6) (m := nF) rfl rfl (hG _) rfl) ?_
 refine aa rfl (bl rfl (by constructor)) ?_
 refine cv ?_
 dsimp only [St.put]
 show lu _ _ _ _ _ _ _
 refine sn ok rfl ⟨rfl, rfl, zK, zN, zS, zK⟩ ?_
 refine vg ?_
 refine mq 10 ?_
 refine zQ ?_
 refine uc3 (X := Nat) (fun k => k ≤ 2) (fun k => 2 - k) (fun k => [(2, .any), (3, .any), (4, .any), (5, .any), (6, .any), (7, .any), (9, .v (.int .i64 (k : Int)))]) (fun k => sdN p k) 0 rfl ?_ ?_ ?_ ?_ ?_
 ·exact Nat.zero_le _
 ·exact zF
 ·rfl
 ·rintro k hI
  exact zL
 ·rintro k hI
  dsimp only at hI ⊢
  refine mq 10 ?_
  refine zQ ?_
  refine sl ?_
  dsimp only [FC.st]
  refine cb fun hlt => ?_
  dsimp only at hlt
  refine cx ?_
  refine aa rfl (ck rfl rfl rfl) ?_
  refine cv ?_
  dsimp only [St.put]
  show lu _ _ _ _ _ _ _
  refine sn ok rfl ⟨rfl, rfl, zK, zN, zS, zK⟩ ?_
  refine sk fun K1 hK1 => ?_
  refine x5 rfl (fun hc => ?_) (fun hc => ?_)
  ·replace hc := of_decide_eq_true hc
   have hk : k < 2 := by omega
   have hsl : (cy p (decide (k = 1))).length ≤ 3 := by
    cases decide (k = 1)
    ·exact hn1
    ·exact hn2
   refine x4 ?_
   refine hK1 _ _ ?_
   refine sk fun K2 hK2 => ?_
   refine vg ?_
   refine mq 10 ?_
   refine zQ ?_
   refine sl ?_
   dsimp only [FC.st]
   refine cb fun hlt => ?_
   dsimp only at hlt
   refine cx ?_
   refine aa rfl (zy (k := k) (m := 2) (sz := 3) rfl rfl rfl rfl hk (zb hk)) ?_
   try dsimp only [St.put]
   refine ae rfl (dx rfl ?_)
   try dsimp only [St.put]
   first | refine ae rfl (di rfl rfl rfl zG rfl rfl (by rfl) ?_) | refine ae rfl (l5 rfl rfl rfl zG (by constructor) rfl zO ?_)
   refine cv ?_
   dsimp only [St.put]
   show lu _ _ _ _ _ _ _
   refine uam ?_
   refine gg (i := 4) rfl zG zC ?_
   dsimp only
   refine fw [(0, none), (1, none), (2, none), (3, none), (4, none), (5, none), (8, none), (6, none), (7, none)] (fun i => [6].contains i) (fun i => [6].contains i) (fun i => [0, 3, 4, 7, 8].contains i) [] (by kernel_rfl) (by kernel_rfl) ?_
   first | refine af rfl rfl rfl rfl (cp rfl rfl rfl) ?_ | refine af rfl rfl rfl rfl (c7 rfl rfl) ?_
   try dsimp only [St.put]
   first | refine aw rfl rfl rfl rfl (ca rfl rfl) ?_ | refine aw rfl rfl rfl rfl (dz rfl rfl (Enc.len _)) ?_ | refine aw rfl rfl rfl rfl (dz rfl rfl rfl) ?_ | refine aw rfl rfl rfl rfl (ez rfl rfl zG (by simp) (by first | rfl | assumption)) ?_ | refine aw rfl rfl rfl rfl (jf rfl rfl zG (by simp) (by rfl)) ?_ | refine aw rfl rfl rfl rfl (qu rfl rfl zG (by simp) (by simp)) ?_ | refine aw rfl rfl rfl rfl (gy rfl rfl zG (by simp) (o1 (by assumption) rfl)) ?_ | refine aw rfl rfl rfl rfl (gy rfl rfl zG (by simp) (by assumption)) ?_ | refine aw rfl rfl rfl rfl (po rfl rfl zG (by simp) rfl (by assumption) rfl (by decide)) ?_ | refine aw rfl rfl rfl rfl (pp rfl rfl zG (by rfl)) ?_
   try dsimp only [St.put]
   first | refine aw rfl rfl rfl rfl (ca rfl rfl) ?_ | refine aw rfl rfl rfl rfl (dz rfl rfl (Enc.len _)) ?_ | refine aw rfl rfl rfl rfl (dz rfl rfl rfl) ?_ | refine aw rfl rfl rfl rfl (ez rfl rfl zG (by simp) (by first | rfl | assumption)) ?_ | refine aw rfl rfl rfl rfl (jf rfl rfl zG (by simp) (by rfl)) ?_ | refine aw rfl rfl rfl rfl (qu rfl rfl zG (by simp) (by simp)) ?_ | refine aw rfl rfl rfl rfl (gy rfl rfl zG (by simp) (o1 (by assumption) rfl)) ?_ | refine aw rfl rfl rfl rfl (gy rfl rfl zG (by simp) (by assumption)) ?_ | refine aw rfl rfl rfl rfl (po rfl rfl zG (by simp) rfl (by assumption) rfl (by decide)) ?_ | refine aw rfl rfl rfl rfl (pp rfl rfl zG (by rfl)) ?_
   first | refine af rfl rfl rfl rfl (m5 rfl rfl) ?_ | refine af rfl rfl rfl rfl (iy rfl rfl) ?_ | refine af rfl rfl rfl rfl (uqi rfl rfl) ?_
   first | refine af rfl rfl rfl rfl (cp rfl rfl rfl) ?_ | refine af rfl rfl rfl rfl (c7 rfl rfl) ?_
   try dsimp only [St.put]
   refine aw rfl rfl rfl rfl (c := val p) (jx (cs := mh p) rfl rfl (show 4 ≤ 7 by decide)) ?_
   refine af rfl rfl rfl rfl (bl rfl (by constructor)) ?_
   refine gu ?_
   try dsimp only [St.put]
   refine f4 rfl rfl rfl rfl (ba rfl rfl rfl (r8 (decide (k = 1)) p) ?_)
   first | refine ec rfl rfl rfl rfl (bp rfl rfl (List.length_map _)) ?_ | refine ec rfl rfl rfl rfl (bp rfl rfl rfl) ?_ | refine ec rfl rfl rfl rfl (xj rfl rfl) ?_ | refine ec rfl rfl rfl rfl (uql rfl rfl) ?_ | refine ec rfl rfl rfl rfl (n8 rfl rfl) ?_ | refine ec rfl rfl rfl rfl (uqk rfl rfl (by omega)) ?_
   refine gt ?_
   dsimp only [St.put]
   show lu _ _ _ _ _ _ _
   refine sn ok rfl ⟨rfl, rfl, zK, zN, zS, zK⟩ ?_
   refine vg ?_
   refine mq 21 ?_
   refine zQ ?_
   refine uc3 (X := Nat) (fun i => i ≤ (cy p (decide (k = 1))).length) (fun i => (cy p (decide (k = 1))).length - i) (fun i => [(5, .any), (6, .any), (7, .any), (20, .v (.int .i64 (i : Int)))]) (fun i => sdN p k + i) 0 rfl ?_ ?_ ?_ ?_ ?_
   ·exact Nat.zero_le _
   ·exact zF
   ·rfl
   ·rintro i hI
    exact zL
   ·rintro i hJ
    dsimp only at hJ ⊢
    refine mq 21 ?_
    refine zQ ?_
    refine sl ?_
    dsimp only [FC.st]
    refine cb fun hlt => ?_
    dsimp only at hlt
    refine cx ?_
    refine aa rfl (ck rfl rfl rfl) ?_
    refine cv ?_
    dsimp only [St.put]
    show lu _ _ _ _ _ _ _
    refine sn ok rfl ⟨rfl, rfl, zK, zN, zS, zK⟩ ?_
    refine sk fun K3 hK3 => ?_
    refine x5 rfl (fun hc => ?_) (fun hc => ?_)
    ·replace hc := of_decide_eq_true hc
     have hi : i < (cy p (decide (k = 1))).length := by omega
     obtain ⟨hL, hN2⟩ := ure hk hi
     refine x4 ?_
     refine hK3 _ _ ?_
     refine sk fun K4 hK4 => ?_
     refine vg ?_
     refine mq 21 ?_
     refine zQ ?_
     refine sl ?_
     dsimp only [FC.st]
     refine cb fun hlt => ?_
     dsimp only at hlt
     refine cx ?_
     refine aa rfl (bl rfl (by constructor)) ?_
     refine aa rfl (dp rfl (by constructor)) ?_
     refine cv ?_
     dsimp only [St.put]
     show lu _ _ _ _ _ _ _
     refine uam ?_
     refine cx ?_
     try dsimp only [St.put]
     first | refine bk rfl (ca rfl rfl) ?_ | refine bk rfl (dz rfl rfl (Enc.len _)) ?_ | refine bk rfl (dz rfl rfl rfl) ?_ | refine bk rfl (ez rfl rfl zG trivial (by first | rfl | assumption)) ?_ | refine bk rfl (jf rfl rfl zG trivial (by rfl)) ?_ | refine bk rfl (qu rfl rfl zG trivial (by simp)) ?_ | refine bk rfl (gy rfl rfl zG trivial (o1 (by assumption) rfl)) ?_ | refine bk rfl (gy rfl rfl zG trivial (by assumption)) ?_ | refine bk rfl (po rfl rfl zG trivial rfl (by assumption) rfl (by decide)) ?_ | refine bk rfl (pp rfl rfl zG (by rfl)) ?_
     try dsimp only [St.put]
     first | refine bk rfl (ca rfl rfl) ?_ | refine bk rfl (dz rfl rfl (Enc.len _)) ?_ | refine bk rfl (dz rfl rfl rfl) ?_ | refine bk rfl (ez rfl rfl zG trivial (by first | rfl | assumption)) ?_ | refine bk rfl (jf rfl rfl zG trivial (by rfl)) ?_ | refine bk rfl (qu rfl rfl zG trivial (by simp)) ?_ | refine bk rfl (gy rfl rfl zG trivial (o1 (by assumption) rfl)) ?_ | refine bk rfl (gy rfl rfl zG trivial (by assumption)) ?_ | refine bk rfl (po rfl rfl zG trivial rfl (by assumption) rfl (by decide)) ?_ | refine bk rfl (pp rfl rfl zG (by rfl)) ?_
     refine aa rfl (bl rfl (by constructor)) ?_
     try dsimp only [St.put]
     refine ae rfl (ba rfl rfl rfl (uf7 p (decide (k = 1)) i h hi) ?_)
     refine aa rfl (bl rfl (by constructor)) ?_
     refine aa rfl (m7 rfl rfl rfl) ?_
     refine aa rfl (m7 rfl rfl rfl) ?_
     refine aa rfl (dp rfl (by constructor)) ?_
     refine aa rfl (dp rfl (by constructor)) ?_
     refine cv ?_
     dsimp only [St.put]
     show lu _ _ _ _ _ _ _
     refine sn ok rfl ⟨rfl, rfl, zK, zN, zS, zK⟩ ?_
     refine sk fun K5 hK5 => ?_
     refine uia ?_
     refine tx rfl (bl rfl (by constructor)) ?_
     refine tx rfl (bl rfl (by constructor)) ?_
     try dsimp only [St.put]
     refine uie ok (by rw [hN]; exact hN2) rfl rfl rfl rfl (by rw [hcl]; show _ = [C.v (.int .i64 (dh p (sdN p k + i)))]; rw [hL]; rfl) ?_
     refine tx rfl (ei rfl rfl) ?_
     refine uif ?_
     dsimp only [St.put]
     refine hK5 _ _ ?_
     refine x5 rfl (fun h => by cases h) (fun _ => ?_)
     refine x4 ?_
     refine hK4 _ _ ?_
     refine mq 21 ?_
     refine zQ ?_
     refine uc2 ok rfl ?_
     dsimp only [FC.st]
     refine cb fun hlt => ?_
     dsimp only at hlt
     refine cx ?_
     first | refine aa rfl (br rfl rfl rfl (by omega)) ?_ | refine aa rfl (xk rfl rfl rfl) ?_
     refine aa rfl (bl rfl (by constructor)) ?_
     refine cv ?_
     dsimp only [St.put]
     refine ⟨⟨rfl, rfl, zK, zN, zS, zK⟩, ?_⟩
     exact ⟨i + 1, by omega, by omega, rfl, ⟨⟨rfl, rfl⟩, zF, zB, zN, zX⟩⟩
    ·replace hc := of_decide_eq_false hc
     obtain rfl : i = (cy p (decide (k = 1))).length := by omega
     refine uc4 ?_
     refine hK2 _ _ ?_
     refine mq 10 ?_
     refine zQ ?_
     refine uc2 ok rfl ?_
     dsimp only [FC.st]
     refine cb fun hlt => ?_
     dsimp only at hlt
     refine cx ?_
     first | refine aa rfl (br rfl rfl rfl (by omega)) ?_ | refine aa rfl (xk rfl rfl rfl) ?_
     refine aa rfl (bl rfl (by constructor)) ?_
     refine cv ?_
     dsimp only [St.put]
     refine ⟨⟨rfl, rfl, zK, zN, zS, zK⟩, ?_⟩
     exact ⟨k + 1, by omega, by omega, (ubs hk).symm, ⟨⟨rfl, rfl⟩, zF, zB, zN, zX⟩⟩
  ·replace hc := of_decide_eq_false hc
   obtain rfl : k = 2 := by omega
   refine uc4 ?_
   exact ⟨.inl rfl, rfl⟩
end Go.Proofs.YtgffhbbcpgdjjaaGreatDoor
namespace Go.AB
open Go Go.RowKit
open Go.AB.Enc (cells)
open Go.PB (ay aj PlaceD bg bi bh bn ak ah cr bq dr dt)
theorem s7 {α : Type} (d v : α) : atE 0 d v = v := rfl
theorem nt {α : Type} {e : Int} (h : e ≠ 0) (d v : α) : atE e d v = d := by unfold atE; rw [decide_eq_false h]; rfl
theorem uhq {p : ah} {e : Int} (h : e ≠ 0) : gm p e = e := by unfold gm; rw [decide_eq_false h]; rfl
theorem u7 (p : ah) : gm p 0 = bif j6 p then 0 else 8 := rfl
end Go.AB
namespace Go.Proofs.YtgffhbbcpgdjjaaGreatDoor
set_option maxRecDepth 10000
open Go.RowKit Go.AB
open Go.AB.Enc (cells)
open Go.PB (ay aj PlaceD bg bi bh bn ak ah cr bq dr dt)
end Go.Proofs.YtgffhbbcpgdjjaaGreatDoor

/-
  What the walks through the program rest on: values, states, steps, calls (AbRangeN, AbRangeM).
-/
import Derived.Test.YtejhjijbgceklaaGreatDoorGrpO
import Derived.Test.YtejhjijbgceklaaGreatDoorEngB
namespace Go.AB
open Go Go.RowKit
open Go.AB.Enc (cells)

/-! ### Only some names are kept -/
open Classical in
noncomputable def Env.few (E : Env) (D : Nat → Prop) (m : Nat) : Env := { E with T := fun k => if D k then E.T k else none, nx := m }
theorem Env.few_T {E : Env} {D : Nat → Prop} {m n : Nat} {t : Nat × Nat × Value} (h : (E.few D m).T n = some t) : D n ∧ E.T n = some t := by
 simp only [Env.few] at h
 split at h
 ·rename_i hd; exact ⟨hd, h⟩
 ·cases h
theorem Env.few_same {E : Env} {D : Nat → Prop} {m n : Nat} (h : D n) : (E.few D m).T n = E.T n := by simp only [Env.few]; rw [if_pos h]
theorem R.few {E : Env} {w : World} {D : Nat → Prop} {m : Nat} {c : C} {v : Value} (h : R E w c v) (hl : c.low m) : R (E.few D m) w c v := by
 have hT : ∀ n t, (E.few D m).T n = some t → E.T n = some t := fun n t ht => (Env.few_T ht).2
 induction h with
 | v hx => exact .v hx
 | list h1 h2 h3 h4 h5 h6 _ z1 z2 h8 ih =>
  cases hl with
  | list l1 l2 =>
  refine .list h1 h2 h3 h4 h5 h6 (fun j c hj => ih j c hj ?_) z1 z2 fun n hn => ⟨l2 n hn, fun ver wv val ht => (h8 n hn).2 _ _ _ (hT _ _ ht)⟩
  obtain ⟨r, hr, hc⟩ := List.mem_flatten.1 (List.mem_of_getElem? hj)
  exact l1 r hr c hc
 | elem h1 h2 h3 _ ih =>
  cases hl with
  | elem l1 => exact .elem h1 h2 h3 fun j c hj => ih j c hj (l1 c (List.mem_of_getElem? hj))
 | box _ h2 => cases hl with | box l => exact .box l fun ver' wv val ht => h2 _ _ _ (hT _ _ ht)
 | arr _ q1 q2 h2 => cases hl with | arr l => exact .arr l q1 q2 fun ver' wv val ht => h2 _ _ _ (hT _ _ ht)
 | own _ q1 q2 h2 => cases hl with | own l => exact .own l q1 q2 fun ver' wv val ht => h2 _ _ _ (hT _ _ ht)
 | fn h1 _ h3 ih => cases hl with | fn l => exact .fn h1 (fun j c hj => ih j c hj (l c (List.mem_of_getElem? hj))) h3
 | map _ h2 => cases hl with | map l => exact .map l fun ver wv val ht => h2 _ _ _ (hT _ _ ht)
 | agg h1 h2 _ h4 ih => cases hl with | agg l => exact .agg h1 h2 (fun j c hj => ih j c hj (l c (List.mem_of_getElem? hj))) h4
 | tup h1 _ h3 ih => cases hl with | tup l => exact .tup h1 (fun j c hj => ih j c hj (l c (List.mem_of_getElem? hj))) h3
 | any => exact .any
theorem Rs.few {E : Env} {w : World} {D : Nat → Prop} {m : Nat} {cs : List C} {vs : List Value} (h : Rs E w cs vs) (hl : ∀ c ∈ cs, C.low m c) : Rs (E.few D m) w cs vs :=
 ⟨h.1, fun j c v h1 h2 => (h.2 j c v h1 h2).few (hl c (List.mem_of_getElem? h1))⟩
theorem SimG.few {E : Env} {w : World} {G : Nat → Option GObj} {D : Nat → Prop} {nx m : Nat} (h : SimG E w G nx) (hm : ∀ n o, G n = some o → D n ∧ o.low m) (hD : ∀ n, D n → n < m) : SimG (E.few D m) w G m := by
 have hT : ∀ n t, (E.few D m).T n = some t → E.T n = some t := fun n t ht => (Env.few_T ht).2
 have hT' : ∀ n, D n → (E.few D m).T n = E.T n := fun n hn => Env.few_same hn
 refine ⟨rfl, fun n o ho => ?_, fun n t ht => hD n (Env.few_T ht).1, fun n ver wv val b ht hb => h.tb n ver wv val b (hT _ _ ht) hb, fun n k t t' b h1 h2 hne hb => h.ap n k t t' b (hT _ _ h1) (hT _ _ h2) hne hb, h.fresh, h.base⟩
 obtain ⟨hn, hlow⟩ := hm n o ho
 have := h.obj n o ho
 cases o with
 | fact v c => exact ⟨(hT' n hn).trans this.1, this.2.few hlow⟩
 | raw wv o => obtain ⟨b, h1, h2, h3⟩ := this; exact ⟨b, (hT' n hn).trans h1, h2, h3⟩
 | map wv ok f =>
  obtain ⟨r, es, clock, h1, h2, h3, h4⟩ := this
  exact ⟨r, es, clock, (hT' n hn).trans h1, h2, h3.imp fun x c _ hx hr => hr.few (hlow x c hx), h4⟩
 | box wv cs =>
  obtain ⟨b, us, tt, h1, h2, h3, h4, h5⟩ := this
  exact ⟨b, us, tt, (hT' n hn).trans h1, h2, h3, h4.few hlow, h5⟩
 | arr ver wv tt sz len cs =>
  obtain ⟨val, us, h1, h2, h3, h4, h5, h6⟩ := this
  exact ⟨val, us, (hT' n hn).trans h1, h2, h3, h4.few hlow, h5, h6⟩
 | tip len tt sz =>
  obtain ⟨val, us, h1, h2, h5, h6⟩ := this
  exact ⟨val, us, (hT' n hn).trans h1, h2, h5, h6⟩
theorem Ev.few {E E' : Env} {w w' : World} (h : Ev E w E' w') (D : Nat → Prop) {m : Nat} (hm : E.nx ≤ m) : Ev E w (E'.few D m) w' := by
 have hT : ∀ n t, (E'.few D m).T n = some t → E'.T n = some t := fun n t ht => (Env.few_T ht).2
 exact ⟨h.below, h.B, h.L, h.cell, hm, fun n hn ver' wv' val' ht => h.T n hn ver' wv' val' (hT _ _ ht), fun n ver wv wv' val h1 h2 hn => h.wv n ver wv wv' val h1 (hT _ _ h2) hn,
  ⟨h.x.F, h.x.lc, h.x.oth, h.x.ic, fun n t' b o ht hb ho => h.x.nb n t' b o (hT _ _ ht) hb ho, fun n t t' b hn h1 h2 hv hb => h.x.mv n t t' b hn h1 (hT _ _ h2) hv hb⟩⟩
/-- An object of cells. -/
def GObj.isC : GObj → Bool
 | .map _ _ _ | .raw _ _ => false
 | _ => true
theorem ObjOk.isC {E : Env} {w : World} {n : Nat} {o : GObj} (h : ObjOk E w n o) (hc : o.isC = true) {t : Nat × Nat × Value} {b : Nat} {ob : Obj} (ht : E.T n = some t) (hb : blk t.2.2 = some b) (ho : w.heap[b]? = some ob) : ob.isCells = true := by
 cases o with
 | box => obtain ⟨b', us, tt, h1, h2, _⟩ := h; rw [h1] at ht; cases ht; cases hb; rw [h2] at ho; cases ho; rfl
 | arr =>
  obtain ⟨val, us, h1, h2, _⟩ := h
  rw [h1] at ht; cases ht
  rcases h2.2 with ⟨rfl, _⟩ | ⟨g, cap, cur, rfl, _, hgg, _⟩
  ·cases hb
  ·cases hb; rw [hgg] at ho; cases ho; rfl
 | tip =>
  obtain ⟨val, us, h1, h2, _⟩ := h
  rw [h1] at ht; cases ht
  rcases h2.2 with ⟨rfl, _⟩ | ⟨g, cap, cur, rfl, _, hgg, _⟩
  ·cases hb
  ·cases hb; rw [hgg] at ho; cases ho; rfl
 | fact => rw [h.1] at ht; cases ht; cases hb
 | map => cases hc
 | raw => cases hc

/-! ### What an iterator may turn -/
/-- What abides the turn of a block that is no cells: one beyond B, or the iterator's own map; X: blocks that came up meanwhile, and are left as they are. -/
def AbidesG {σ : Type} (rm : Option Nat) (B : Nat) (J : σ → (Nat → Prop) → World → Prop) : Prop := ∀ s X A A' row, J s X A → A.grownBy A' row →
 (∀ r, row = some r → (∃ o : Obj, A.heap[r]? = some o ∧ o.isCells = false) ∧ (B ≤ r ∨ (rm = some r ∧ ∃ o' : Obj, A'.heap[r]? = some o' ∧ o'.isCells = false))) → J s (fun b => X b ∨ (A.heap.size ≤ b ∧ b < A'.heap.size)) A'
/-- What a round that goes on keeps. -/
def KeepG (rm : Option Nat) (E : Env) (w : World) (X : Nat → Prop) (W W' : World) : Prop :=
 KeepL E W W' ∧ (∀ r, rm = some r → W'.heap[r]? = W.heap[r]?) ∧ (∀ b, X b → W'.heap[b]? = W.heap[b]?) ∧ ∀ (b : Nat) (o : Obj), w.heap.size ≤ b → W.heap[b]? = some o → o.isCells = false → W'.heap[b]? = some o
def IterG (P : Program) (gf : Nat) (rm : Option Nat) (E : Env) (w : World) (lb : List Value) {β : Type} (xs : List β) (encv : β → List Value) : Prop :=
 ∀ (l : Nat) (J Jx : List { x // x ∈ xs } → (Nat → Prop) → World → Prop) (W : World), Below w.heap.size w W → AbidesG rm W.heap.size J → AbidesG rm W.heap.size Jx →
  (∀ pre X x W1, J pre X W1 → pre.length < xs.length → YieldAt (fen none) 1 P l (encv x.1).toArray W1 fun e W' =>
   (e = .returned (.bool true) ∧ J (pre ++ [x]) X W' ∧ KeepG rm E w X W1 W') ∨ (e = .returned (.bool false) ∧ Jx (pre ++ [x]) X W' ∧ KeepsFrom W.heap.size W1 W')) →
  J [] (fun _ => False) W →
  CallsIn (fen none) 2 P gf (#[.func (.yield l) #[] #[]] ++ lb.toArray) W fun e W' => (∃ v, e = .returned v) ∧ ((∃ zs X, zs.map Subtype.val = xs ∧ J zs X W') ∨ (∃ pre X, pre.map Subtype.val <+: xs ∧ Jx pre X W'))
theorem AbidesG.walks {σ : Type} {B : Nat} {J : σ → (Nat → Prop) → World → Prop} (h : AbidesG none B J) : AbidesFrom B fun s W => ∃ X, J s X W := fun s W W' row ⟨X, hs⟩ hg hr => ⟨_, h s X W W' row hs hg fun r e => by
 obtain ⟨h1, o, h2, h3⟩ := hr r e
 exact ⟨⟨o, h2, Obj.not_cells_of_walk h3⟩, .inl h1⟩⟩
theorem IterAt.g {P : Program} {gf : Nat} {E : Env} {w : World} {lb : List Value} {β : Type} {xs : List β} {encv : β → List Value} (h : IterAt P gf E w lb xs encv) : IterG P gf none E w lb xs encv := fun l J Jx W hb hJ hJx hy h0 =>
 CallsIn.mono (h l (fun s W => ∃ X, J s X W) (fun s W => ∃ X, Jx s X W) W hb hJ.walks hJx.walks (fun pre x W1 ⟨X, hj⟩ hl => (let ⟨fn, tmps, assign, body, hy1, hR⟩ := hy pre X x W1 hj hl; ⟨fn, tmps, assign, body, hy1, hR.mono fun e w' k => by
  rcases k with ⟨k1, k2, k3⟩ | ⟨k1, k2, _⟩
  ·exact .inl ⟨k1, ⟨X, k2⟩, k3.1⟩
  ·exact .inr ⟨k1, ⟨X, k2⟩⟩⟩)) ⟨_, h0⟩) fun e w' ⟨k1, k2⟩ => ⟨k1, by
  rcases k2 with ⟨zs, q1, X, q2⟩ | ⟨pre, q1, X, q2⟩
  ·exact .inl ⟨zs, X, q1, q2⟩
  ·exact .inr ⟨pre, X, q1, q2⟩⟩
/-- The turn of the iterator's map. -/
theorem Ev.turnM {E E1 : Env} {w W W' : World} {G0 : Nat → Option GObj} {nx0 : Nat} (hs : SimG E w G0 nx0) (hev : Ev E w E1 W) (hfr : ∀ b, W.heap.size ≤ b → E1.L b = 0) {r : Nat} {o o' : Obj} (hM : ∃ n t, E.T n = some t ∧ blk t.2.2 = some r) (hun : ∀ n t, E1.T n = some t → blk t.2.2 ≠ some r) (hg : W.grownBy W' (some r))
  (ho : W.heap[r]? = some o) (hoc : o.isCells = false) (ho' : W'.heap[r]? = some o') (hoc' : o'.isCells = false) : Ev E w E1 W' ∧ ∀ b i, i < E1.L b → W'.cell? ⟨b, i, none⟩ = W.cell? ⟨b, i, none⟩ := by
 have hsz := hev.below.size
 obtain ⟨n0, t0, hn0, hb0⟩ := hM
 have hB := hs.tb n0 t0.1 t0.2.1 t0.2.2 r hn0 hb0
 have hoth : ∀ b, b < W.heap.size → b ≠ r → W'.heap[b]? = W.heap[b]? := fun b hb hne => hg.block b hb fun e => hne (Option.some.inj e)
 have hcell : ∀ b i, i < E1.L b → W'.cell? ⟨b, i, none⟩ = W.cell? ⟨b, i, none⟩ := fun b i hi => by
  by_cases e : b = r
  ·subst e; rw [no_cell ho hoc, no_cell ho' hoc']
  ·have hlt : b < W.heap.size := Nat.lt_of_not_le fun hle => by have := hfr b hle; omega
   exact World.cell?_of_block (w := W) (hoth b hlt e)
 refine ⟨⟨⟨hg.os.trans hev.below.os, hg.tape.trans hev.below.tape, hg.output.trans hev.below.output, Nat.le_trans hsz hg.size, fun k hk => (hoth k (by have := hs.base; omega) (by omega)).trans (hev.below.block k hk)⟩, hev.B, hev.L,
  fun b i hi => (hcell b i (Nat.lt_of_lt_of_le hi (hev.L b))).trans (hev.cell b i hi), hev.nx, fun n hn' ver' wv' val' h3 => ?_, hev.wv,
  ⟨hev.x.F, fun b hb => ?_, fun b ob hob hu => (hoth b (by have := (Array.getElem?_eq_some_iff.1 hob).1; omega) (fun e => hu n0 t0 hn0 (e ▸ hb0))).trans (hev.x.oth b ob hob hu), fun b ob hob => ?_, hev.x.nb, fun n t t' b hn' q1 q2 q3 q4 => ?_⟩⟩, hcell⟩
 ·obtain ⟨ver, wv, val, q1, q2, q3⟩ := hev.T n hn' _ _ _ h3
  refine ⟨ver, wv, val, q1, q2, fun e => ⟨(q3 e).1, fun e2 b hb => (hoth b ?_ fun e3 => ?_).trans ((q3 e).2 e2 b hb)⟩⟩
  ·have := (hs.tb n _ _ _ b q1 hb).2; omega
  ·subst e3
   exact hun n _ h3 (by rw [← (q3 e).1]; exact hb)
 ·obtain ⟨v, hv⟩ := hev.x.lc b hb
  exact ⟨v, (hcell b 0 (by omega)).trans hv⟩
 ·obtain ⟨o1, h1, h2⟩ := hev.x.ic b ob hob
  by_cases e : b = r
  ·subst e
   rw [ho] at h1; cases h1
   exact ⟨o', ho', by rw [← h2, hoc, hoc']⟩
  ·exact ⟨o1, (hoth b (Array.getElem?_eq_some_iff.1 h1).1 e).trans h1, h2⟩
 ·obtain ⟨o2, q5, q6⟩ := hev.x.mv n t t' b hn' q1 q2 q3 q4
  exact ⟨o2, (hoth b (Array.getElem?_eq_some_iff.1 q5).1 fun e => hun n t' q2 (e ▸ q4)).trans q5, q6⟩
/-- What is owned, between two rounds. -/
def OwnM (rm : Option Nat) (B0 : Nat) (X : Nat → Prop) (E : Env) (w : World) (G : Nat → Option GObj) (nx : Nat) (W : World) : Prop :=
 ∃ E1, Ev E w E1 W ∧ SimG E1 W G nx ∧ NCB nx w.heap.size E1 W ∧ (∀ r, rm = some r → (∃ o : Obj, W.heap[r]? = some o ∧ o.isCells = false) ∧ ∀ n t, E1.T n = some t → blk t.2.2 ≠ some r) ∧
  ∀ b, X b → B0 ≤ b ∧ b < W.heap.size ∧ ∀ n t, E1.T n = some t → blk t.2.2 ≠ some b
theorem OwnM.turn {rm : Option Nat} {B0 : Nat} {X : Nat → Prop} {E : Env} {w : World} {G0 : Nat → Option GObj} {nx0 : Nat} (hs : SimG E w G0 nx0) (hrm : ∀ r, rm = some r → ∃ n t, E.T n = some t ∧ blk t.2.2 = some r) {G : Nat → Option GObj} {nx : Nat} {W W' : World} {row : Option Nat} (h : OwnM rm B0 X E w G nx W) (hB : B0 ≤ W.heap.size) (hg : W.grownBy W' row)
  (hr : ∀ r, row = some r → (∃ o : Obj, W.heap[r]? = some o ∧ o.isCells = false) ∧ (w.heap.size ≤ r ∨ (rm = some r ∧ ∃ o' : Obj, W'.heap[r]? = some o' ∧ o'.isCells = false))) : OwnM rm B0 (fun b => X b ∨ (W.heap.size ≤ b ∧ b < W'.heap.size)) E w G nx W' := by
 obtain ⟨E1, hev, hs1, hn, hm, hX⟩ := h
 have hnx := hs1.nx
 have fin : (Ev E w E1 W' ∧ ∀ b i, i < E1.L b → W'.cell? ⟨b, i, none⟩ = W.cell? ⟨b, i, none⟩) → (∀ n t b, E1.T n = some t → blk t.2.2 = some b → row ≠ some b) → (∀ r, rm = some r → ∃ o : Obj, W'.heap[r]? = some o ∧ o.isCells = false) → OwnM rm B0 (fun b => X b ∨ (W.heap.size ≤ b ∧ b < W'.heap.size)) E w G nx W' := by
  rintro ⟨hev', hcell⟩ hne hm'
  have hblk : ∀ n t b, E1.T n = some t → blk t.2.2 = some b → W'.heap[b]? = W.heap[b]? := fun n t b ht hb => hg.block b (hs1.tb n t.1 t.2.1 t.2.2 b ht hb).2 fun e => hne n t b ht hb e.symm
  refine ⟨E1, hev', hs1.heap hcell hblk hg.size, fun n t b o hlt ht hb ho hf => hn n t b o hlt ht hb ((hblk n t b ht hb).symm.trans ho) hf, fun r e => ⟨hm' r e, (hm r e).2⟩, fun b hb => ?_⟩
  rcases hb with hb | ⟨h1, h2⟩
  ·exact ⟨(hX b hb).1, Nat.lt_of_lt_of_le (hX b hb).2.1 hg.size, (hX b hb).2.2⟩
  ·refine ⟨Nat.le_trans hB h1, h2, fun n t ht hb => ?_⟩
   have := (hs1.tb n t.1 t.2.1 t.2.2 b ht hb).2
   omega
 cases row with
 | none =>
  refine fin (hev.turn hs hs1.fresh hg fun r e => by cases e) (fun _ _ _ _ _ e => by cases e) fun r e => ?_
  obtain ⟨⟨o, h1, h2⟩, _⟩ := hm r e
  exact ⟨o, (hg.block r (Array.getElem?_eq_some_iff.1 h1).1 (by simp)).trans h1, h2⟩
 | some r =>
  obtain ⟨⟨o, h1, h2⟩, h3⟩ := hr r rfl
  by_cases hle : w.heap.size ≤ r
  ·refine fin (hev.turn hs hs1.fresh hg fun r' e => by cases e; exact ⟨hle, o, h1, h2⟩) (fun n t b ht hb e => ?_) fun r' e => ?_
   ·cases e
    have := hn n t r o (hnx ▸ hs1.lt n t ht) ht hb h1 h2
    omega
   ·obtain ⟨⟨o', h4, h5⟩, _⟩ := hm r' e
    obtain ⟨n0, t0, q1, q2⟩ := hrm r' e
    have := (hs.tb n0 t0.1 t0.2.1 t0.2.2 r' q1 q2).2
    exact ⟨o', (hg.block r' (Array.getElem?_eq_some_iff.1 h4).1 (by intro e2; cases e2; omega)).trans h4, h5⟩
  ·obtain ⟨e, o', h4, h5⟩ := h3.resolve_left hle
   refine fin (hev.turnM hs hs1.fresh (hrm r e) (hm r e).2 hg h1 h2 h4 h5) (fun n t b ht hb e2 => ?_) fun r' e2 => ?_
   ·cases e2
    exact (hm r e).2 n t ht hb
   ·rw [e] at e2; cases e2
    exact ⟨o', h4, h5⟩
theorem OwnM.base {rm : Option Nat} {B0 B1 : Nat} {X : Nat → Prop} {E : Env} {w : World} {G : Nat → Option GObj} {nx : Nat} {W : World} (h : OwnM rm B0 X E w G nx W) : OwnM rm B1 (fun _ => False) E w G nx W :=
 let ⟨E1, h1, h2, h3, h4, _⟩ := h; ⟨E1, h1, h2, h3, h4, fun _ hb => hb.elim⟩
theorem OwnM.fewer {rm : Option Nat} {B0 : Nat} {X Y : Nat → Prop} {E : Env} {w : World} {G : Nat → Option GObj} {nx : Nat} {W : World} (h : OwnM rm B0 X E w G nx W) (hY : ∀ b, Y b → X b) : OwnM rm B0 Y E w G nx W :=
 let ⟨E1, h1, h2, h3, h4, h5⟩ := h; ⟨E1, h1, h2, h3, h4, fun b hb => h5 b (hY b hb)⟩
theorem OwnM.put {rm : Option Nat} {B0 : Nat} {X : Nat → Prop} {E : Env} {w : World} {G0 : Nat → Option GObj} {nx0 : Nat} (hs : SimG E w G0 nx0) (hrm : ∀ r, rm = some r → ∃ n t, E.T n = some t ∧ blk t.2.2 = some r) {G : Nat → Option GObj} {nx : Nat} {W : World} {l : Nat} {o : Obj} (h : OwnM rm B0 X E w G nx W) (hB : B0 ≤ W.heap.size) (hl : w.heap.size ≤ l) (ho : W.heap[l]? = some o) (hf : o.isCells = false) (o' : Obj) : OwnM rm B0 X E w G nx (W.putObj l o') :=
 (h.turn hs hrm hB (grownBy_putObj' W l o') (fun r e => by cases e; exact ⟨⟨o, ho, hf⟩, .inl hl⟩)).fewer fun b hb => .inl hb
theorem NCB.mono {m m' B : Nat} {E : Env} {W : World} (h : NCB m B E W) (hm : m' ≤ m) : NCB m' B E W := fun n t b o hlt => h n t b o (by omega)

/-- How a round ends. -/
def RPostN {β Y : Type} (J : List β → Nat → Option GObj) (N : List β → Nat) (IxA : Code → List β → Y → Prop) (Gx : Y → Nat → Option GObj) (Nx : Y → Nat) (zs : List β) (e : Exit) (st : St) : Prop :=
 match e with
 | .normal => (∀ n o, J zs n = some o → st.G n = some o) ∧ N zs ≤ st.nx
 | .ret => ∃ y, IxA .ret zs y ∧ (∀ n o, Gx y n = some o → st.G n = some o) ∧ Nx y ≤ st.nx
 | .exit id => ∃ y, IxA (.exit id) zs y ∧ (∀ n o, Gx y n = some o → st.G n = some o) ∧ Nx y ≤ st.nx
 | .goto l => ∃ y, IxA (.goto l) zs y ∧ (∀ n o, Gx y n = some o → st.G n = some o) ∧ Nx y ≤ st.nx
 | _ => False
/-- What may be said of the objects between rounds: as ahead of the loop, or low, and new ones of cells. -/
def NewOk (st : St) (G : Nat → Option GObj) (m : Nat) : Prop := ∀ n o, G n = some o → st.G n = some o ∨ (n < m ∧ o.low m ∧ (st.nx ≤ n → o.isC = true))
theorem rangeFunc_g {E : Env} {w : World} {a : Act} {P : Program} {β Y : Type} {g : Operand} {ps : Array Tmp} {assign body : Code} {Q : Exit → St → Prop} {st : St} {gf : Nat} [Fun P gf] {vs : List Value} {xs : List β} {encv : β → List Value} (rm : Option Nat) (M : Nat) (cl : β → List C) (pl : List Tmp)
  (J : List β → Nat → Option GObj) (N : List β → Nat) (IxA : Code → List β → Y → Prop) (Gx : Y → Nat → Option GObj) (Nx : Y → Nat) (u : β → List (Nat × C)) (hs : Sim E w st a) (it : IterG P gf rm E w vs xs encv)
  (hrm : ∀ r, rm = some r → (∃ t, E.T M = some t ∧ blk t.2.2 = some r) ∧ (∃ o : Obj, w.heap[r]? = some o ∧ o.isCells = false) ∧ J [] M = none)
  (hgv : a.eval g = .func (.func gf) #[] vs.toArray) (hps : ps = pl.toArray) (hlen : ∀ x, (encv x).length = pl.length) (hcl : ∀ x ∈ xs, ∀ E W, Rs E W (cl x) (encv x))
  (hu : ∀ pre x, putL pl (cl x) { st with G := J pre, nx := N pre, df := 0 } = { st with r := u x, G := J pre, nx := N pre, df := 0 })
  (h0 : ∀ n o, J [] n = some o → st.G n = some o) (n0 : N [] = st.nx) (hN : ∀ zs, st.nx ≤ N zs) (hNx : ∀ c zs y, IxA c zs y → st.nx ≤ Nx y) (hJ : ∀ zs, NewOk st (J zs) (N zs)) (hGx : ∀ c zs y, IxA c zs y → NewOk st (Gx y) (Nx y))
  (round : ∀ l pre x, x ∈ xs → pre.length < xs.length → (∀ y ∈ pre, y ∈ xs) → AW (some l) P assign (AThen (AW (some l) P body (RPostN J N IxA Gx Nx (pre ++ [x]))) fun _ _ => False) { st with r := u x, G := J pre, nx := N pre, df := 0 })
  (stop : ∀ c pre y, pre <+: xs → IxA c pre y → AW none P c Q { st with G := Gx y, nx := Nx y, df := st.df + 1 })
  (done : Q .normal { st with G := J xs, nx := N xs, df := st.df + 1 }) : cwp none P (.rangeFunc g ps assign body) (lift E w Q) a w := by
 have hlow : ∀ {G : Nat → Option GObj} {m : Nat}, st.nx ≤ m → NewOk st G m → ∀ n o, G n = some o → n < m ∧ o.low m ∧ (st.nx ≤ n → o.isC = true) := fun {G m} hm h n o ho => by
  rcases h n o ho with h1 | h1
  ·have := hs.lowG n o h1
   exact ⟨by omega, GObj.low_mono this.2 hm, fun h => by omega⟩
  ·exact h1
 have hrm' : ∀ r, rm = some r → ∃ n t, E.T n = some t ∧ blk t.2.2 = some r := fun r e => ⟨M, (hrm r e).1⟩
 have hrlt : ∀ r, rm = some r → r < w.heap.size := fun r e => by
  obtain ⟨t, h1, h2⟩ := (hrm r e).1
  exact (hs.g.tb M t.1 t.2.1 t.2.2 r h1 h2).2
 have hF : E.F ≤ w.heap.size := hs.d.F
 have hnx := hs.g.nx
 have simAt : ∀ {E1 : Env} {W : World} {G : Nat → Option GObj} {m : Nat} {ds : List Deferred} {k : Nat}, Ev E w E1 W → SimG E1 W G m → DefN E1 W k ds → Sim E1 W { st with G := G, nx := m, df := k } { a with defers := ds } := fun hev hg1 hd =>
  ⟨hd, hs.sz, fun i v hv => (hs.t i v hv).ev hev, hg1⟩
 have marked : ∀ {E1 : Env} {W : World} {D m : Nat}, Ev E w E1 W → (∀ n t, E1.T n = some t → n < m) → NCB m w.heap.size E1 W → w.heap.size ≤ D → W.heap[D]? = some (.deferred (some [])) → DefN E1 W (st.df + 1) ({ target := .collected D, args := #[] } :: a.defers) := fun {E1 W D m} hev hlt hn hD hK => by
  refine ⟨⟨⟨D, rfl, by rw [hev.x.F]; omega, hK, fun n t ht hb => ?_, ?_⟩, (hs.d.ev hev).1⟩, by simp [hs.d.2]⟩
  ·have := hn n t D _ (hlt n t ht) ht hb hK rfl
   omega
  ·have : ∀ {ds : List Deferred}, DefOk E w ds → ∀ d' ∈ ds, d'.target ≠ .collected D := by
    intro ds
    induction ds with
    | nil => exact fun _ d' h => by cases h
    | cons d ds ih =>
     rintro ⟨⟨D', e', _, h2, _⟩, k⟩ d' hd'
     rcases List.mem_cons.1 hd' with rfl | hd'
     ·rw [e']
      intro e
      simp only [Target.collected.injEq] at e
      have := (Array.getElem?_eq_some_iff.1 h2).1
      omega
     ·exact ih k d' hd'
   exact this hs.d.1
 refine cwp_n (n := 3) (wpIn_rangeFunc fun fn _ => ?_)
 -- the loop's record and the block for deferred calls
 obtain ⟨rc, hrc⟩ : ∃ rc : LoopState → Option Code → Loop, rc = fun s pe => { state := s, pending := pe, fn, tmps := a.tmps, params := ps, assign, body, defers := w.heap.size } := ⟨_, rfl⟩
 obtain ⟨W1, hW1⟩ : ∃ W1, (w.alloc (.deferred (some []))).alloc (.loop (rc .ready none)) = W1 := ⟨_, rfl⟩
 have sz1 : W1.heap.size = w.heap.size + 2 := by rw [← hW1]; simp
 have gr1 : w.grownBy W1 none := by
  refine ⟨by rw [← hW1]; rfl, by rw [← hW1]; rfl, by rw [← hW1]; rfl, by omega, fun k hk _ => ?_⟩
  rw [← hW1, Below.heap_alloc _ _ _ (by simp; omega), Below.heap_alloc _ _ _ hk]
 have recs : W1.heap[w.heap.size + 1]? = some (.loop (rc .ready none)) ∧ W1.heap[w.heap.size]? = some (.deferred (some [])) := by
  rw [← hW1]
  refine ⟨by have := World.alloc_heap_new (w.alloc (.deferred (some []))) (.loop (rc .ready none)); simpa using this, ?_⟩
  rw [Below.heap_alloc _ _ _ (by simp)]
  exact World.alloc_heap_new w _
 have own1 : OwnM rm (w.heap.size + 2) (fun _ => False) E w (J []) (N []) W1 := by
  refine OwnM.base (OwnM.turn (B0 := 0) (X := fun _ => False) hs.g hrm' ⟨E.few (fun n => n < st.nx ∧ ∀ r, rm = some r → n ≠ M) (N []), (Ev.refl E w).few _ (by rw [n0]; omega), (hs.g.weak h0).few (fun n o ho => ?_) (fun n hn => by rw [n0]; exact hn.1), fun n t b o _ ht hb _ _ => (hs.g.tb n t.1 t.2.1 t.2.2 b (Env.few_T ht).2 hb).2, fun r e => ⟨(hrm r e).2.1, fun n t ht hb => ?_⟩, fun _ hb => hb.elim⟩ (Nat.zero_le _) gr1 (fun r e => by cases e))
  ·have := hs.lowG n o (h0 n o ho)
   refine ⟨⟨this.1, fun r e h => ?_⟩, n0 ▸ this.2⟩
   subst h
   rw [(hrm r e).2.2] at ho; cases ho
  ·obtain ⟨⟨_, h1⟩, h2⟩ := Env.few_T ht
   obtain ⟨t0, h3, h4⟩ := (hrm r e).1
   exact hs.g.ap n M t t0 r h2 h3 (h1 r e) hb h4
 refine ⟨w.heap.size + 1, [{ target := .collected w.heap.size, args := #[] }], W1, { target := .fn (.func gf) vs.toArray, args := #[.func (.yield (w.heap.size + 1)) #[] #[]] }, W1, gf, #[.func (.yield (w.heap.size + 1)) #[] #[]] ++ vs.toArray, W1, ?_, ?_, fun _ _ => trivial, ?_, fun e => (by cases e), ?_⟩
 ·rw [← hW1, hrc]; exact run_enterLoop_outer _ _ _ _ _
 ·simp only [resolve, hgv]; simp [go_sem]
 ·simp [invoke, go_sem, run_callFunc]
 have below1 : Below w.heap.size w W1 := ⟨gr1.os, gr1.tape, gr1.output, gr1.size, fun k hk => gr1.block k hk (by simp)⟩
 have tame : ∀ {A B : World} {row : Option Nat}, (∀ r, row = some r → (∃ o : Obj, A.heap[r]? = some o ∧ o.isCells = false) ∧ (W1.heap.size ≤ r ∨ (rm = some r ∧ ∃ o' : Obj, B.heap[r]? = some o' ∧ o'.isCells = false))) → ∀ r, row = some r → (∃ o : Obj, A.heap[r]? = some o ∧ o.isCells = false) ∧ (w.heap.size ≤ r ∨ (rm = some r ∧ ∃ o' : Obj, B.heap[r]? = some o' ∧ o'.isCells = false)) := fun h r e => by
  obtain ⟨h1, h2⟩ := h r e
  exact ⟨h1, h2.imp (fun h => by omega) id⟩
 have stays : ∀ {A B : World} {row : Option Nat} {k : Nat} {o : Obj}, A.grownBy B row → (∀ r, row = some r → (∃ o : Obj, A.heap[r]? = some o ∧ o.isCells = false) ∧ (W1.heap.size ≤ r ∨ (rm = some r ∧ ∃ o' : Obj, B.heap[r]? = some o' ∧ o'.isCells = false))) → w.heap.size ≤ k → k < W1.heap.size → A.heap[k]? = some o → B.heap[k]? = some o := fun {A B row k o} hgr h hk1 hk2 hk => by
  refine (hgr.block k (Array.getElem?_eq_some_iff.1 hk).1 fun e => ?_).trans hk
  rcases (h k e.symm).2 with h1 | ⟨h1, _⟩
  ·omega
  ·have := hrlt k h1; omega
 refine (it (w.heap.size + 1)
  (fun zs X W => OwnM rm (w.heap.size + 2) X E w (J (zs.map Subtype.val)) (N (zs.map Subtype.val)) W ∧ W.heap[w.heap.size + 1]? = some (.loop (rc .ready none)) ∧ W.heap[w.heap.size]? = some (.deferred (some [])))
  (fun zs X W => ∃ c y, IxA c (zs.map Subtype.val) y ∧ OwnM rm (w.heap.size + 2) X E w (Gx y) (Nx y) W ∧ W.heap[w.heap.size + 1]? = some (.loop (rc .done (some c))) ∧ W.heap[w.heap.size]? = some (.deferred (some [])))
  W1 below1 (fun zs X A B row h hgr hr => ⟨h.1.turn hs.g hrm' (by have := (Array.getElem?_eq_some_iff.1 h.2.1).1; omega) hgr (tame (B := B) hr), stays hgr hr (by omega) (by omega) h.2.1, stays hgr hr (by omega) (by omega) h.2.2⟩)
  (fun zs X A B row h hgr hr => let ⟨c, y, h1, h2, h3, h4⟩ := h; ⟨c, y, h1, h2.turn hs.g hrm' (by have := (Array.getElem?_eq_some_iff.1 h3).1; omega) hgr (tame (B := B) hr), stays hgr hr (by omega) (by omega) h3, stays hgr hr (by omega) (by omega) h4⟩) ?_ ⟨own1, recs⟩).mono ?_
 ·-- a round
  rintro pre X x W ⟨⟨E1, hev, hs1, hn, hm1, hX1⟩, hl, hk⟩ hlen'
  have hE1 : E1.nx = N (pre.map Subtype.val) := hs1.nx
  have hNp := hN (pre.map Subtype.val)
  have unt : ∀ {k : Nat} {o : Obj}, w.heap.size ≤ k → W.heap[k]? = some o → o.isCells = false → ∀ n t, E1.T n = some t → blk t.2.2 ≠ some k := fun {k o} hk' ho hf n t ht hb => by
   have := hn n t k o (hE1 ▸ hs1.lt n t ht) ht hb ho hf
   omega
  have hy := run_yield (P := P) (args := (encv x.1).toArray) hl (by rw [hrc]; simp [hps, hlen])
  rw [hrc] at hy
  refine ⟨fn, _, assign, body, hy, roundIn_of_wpIn trivial ?_⟩
  clear hy
  have ha0 : ({ tmps := (ps.zip (encv x.1).toArray).foldl (fun t (p, v) => t.setIfInBounds p v) a.tmps, defers := [] } : Act) = putA pl (encv x.1) { tmps := a.tmps, defers := [] } := by
   rw [putA_tmps, hps]
   simp
  have hF1 : E1.F ≤ W.heap.size := by rw [hev.x.F]; exact Nat.le_trans hF hev.below.size
  have hsim := sim_puts pl (hcl x.1 x.2 E1 W) (simAt (ds := []) (k := 0) hev hs1 ⟨hF1, rfl⟩)
  rw [hu] at hsim
  show assign.wpIn (fen (some (w.heap.size + 1))) 1 P _ { tmps := (ps.zip (encv x.1).toArray).foldl (fun t (p, v) => t.setIfInBounds p v) a.tmps, defers := [] } W
  rw [ha0]
  refine wpIn_mono (round (w.heap.size + 1) (pre.map Subtype.val) x.1 x.2 (by simpa using hlen') (fun y hy => by
   obtain ⟨z, _, rfl⟩ := List.mem_map.1 hy
   exact z.2) E1 W _ hsim) ?_
  rintro e a1 Wa ⟨st1, E2, q1, q2, q3⟩
  cases e with
  | normal =>
   have hla := q1.x.oth _ _ hl (unt (by omega) hl rfl)
   have hka := q1.x.oth _ _ hk (unt (Nat.le_refl _) hk rfl)
   have hlta := (Array.getElem?_eq_some_iff.1 hla).1
   refine ⟨_, run_beginRound hla (by rw [hrc]), ?_⟩
   -- the record is busy
   have unt2 : ∀ {k : Nat} {o : Obj}, w.heap.size ≤ k → W.heap[k]? = some o → o.isCells = false → ∀ n t, E2.T n = some t → blk t.2.2 ≠ some k := fun {k o} hk' ho hf n t ht hb => by
    obtain ⟨t0, h1, h2⟩ := q1.x.nb n t k o ht hb ho
    exact unt hk' ho hf n t0 h1 h2
   obtain ⟨Wb, hWb⟩ : ∃ Wb, Wa.putObj (w.heap.size + 1) (.loop { rc .ready none with state := .busy }) = Wb := ⟨_, rfl⟩
   rw [hWb]
   have grb : Wa.grownBy Wb (some (w.heap.size + 1)) := hWb ▸ grownBy_putObj' _ _ _
   have hlb : Wb.heap[w.heap.size + 1]? = some (.loop { rc .ready none with state := .busy }) := hWb ▸ World.putObj_heap_same hlta
   have hkb : Wb.heap[w.heap.size]? = some (.deferred (some [])) := (grb.block _ (Array.getElem?_eq_some_iff.1 hka).1 (by simp)).trans hka
   obtain ⟨evb, hcellb⟩ := (hev.trans q1).turn hs.g q2.g.fresh grb (fun r e => by cases e; exact ⟨by omega, _, hla, rfl⟩)
   have hblkb : ∀ n t b, E2.T n = some t → blk t.2.2 = some b → Wb.heap[b]? = Wa.heap[b]? := fun n t b ht hb => by
    refine grb.block b (q2.g.tb n t.1 t.2.1 t.2.2 b ht hb).2 fun e => ?_
    simp only [Option.some.injEq] at e
    subst e
    exact unt2 (by omega) hl rfl n t ht hb
   have gb := q2.g.heap hcellb hblkb grb.size
   have db : DefN E2 Wb st1.df a1.defers := by
    have : ∀ {ds : List Deferred}, DefOk E2 Wa ds → DefOk E2 Wb ds := by
     intro ds
     induction ds with
     | nil => exact fun h => Nat.le_trans h grb.size
     | cons d ds ih =>
      rintro ⟨⟨D', e', h1, h2, h3, h4⟩, k⟩
      refine ⟨⟨D', e', h1, (grb.block D' (Array.getElem?_eq_some_iff.1 h2).1 fun e => ?_).trans h2, h3, h4⟩, ih k⟩
      simp only [Option.some.injEq] at e
      subst e
      rw [hla] at h2; cases h2
    exact ⟨this q2.d.1, q2.d.2⟩
   have simb : Sim E2 Wb st1 a1 := ⟨db, q2.sz, fun i v hv => (q2.t i v hv).same (fun _ => Nat.le_refl _) hcellb rfl rfl, gb⟩
   have nb2 : NCB st.nx w.heap.size E2 Wb := fun n t b o hm ht hb ho hf => by
    have := hblkb n t b ht hb
    exact (hn.mono hNp).step (by omega) hs1 q1 n t b o hm ht hb (this.symm.trans ho) hf
   have hm2 : st.nx ≤ E2.nx := by have := q1.nx; omega
   have um2 : ∀ r, rm = some r → ∀ n t, E2.T n = some t → blk t.2.2 ≠ some r := fun r e n t ht hb => by
    obtain ⟨⟨o, h1, _⟩, h2⟩ := hm1 r e
    obtain ⟨t0, h3, h4⟩ := q1.x.nb n t r o ht hb h1
    exact h2 n t0 h3 h4
   have ux2 : ∀ b, X b → ∀ n t, E2.T n = some t → blk t.2.2 ≠ some b := fun b hX n t ht hb => by
    obtain ⟨q1', q2', q3'⟩ := hX1 b hX
    obtain ⟨t0, h3, h4⟩ := q1.x.nb n t b _ ht hb (Array.getElem?_eq_getElem q2')
    exact q3' n t0 h3 h4
   have xb : ∀ b, X b → Wb.heap[b]? = W.heap[b]? := fun b hX => by
    obtain ⟨q1', q2', q3'⟩ := hX1 b hX
    have h3 := q1.x.oth b _ (Array.getElem?_eq_getElem q2') q3'
    rw [Array.getElem?_eq_getElem q2']
    exact (grb.block b (Array.getElem?_eq_some_iff.1 h3).1 (by simp; omega)).trans h3
   have rmb : ∀ r, rm = some r → Wb.heap[r]? = W.heap[r]? := fun r e => by
    obtain ⟨⟨o, h1, _⟩, h2⟩ := hm1 r e
    have h3 := q1.x.oth r o h1 h2
    have := hrlt r e
    rw [h1]
    exact (grb.block r (Array.getElem?_eq_some_iff.1 h3).1 (by simp; omega)).trans h3
   refine wpIn_mono (q3 E2 Wb a1 simb) ?_
   rintro e a3 W3 ⟨st', E3, r1, r2, r3⟩
   have hl3 := r1.x.oth _ _ hlb (unt2 (by omega) hl rfl)
   have hk3 := r1.x.oth _ _ hkb (unt2 (Nat.le_refl _) hk rfl)
   have nb3 := nb2.step hm2 gb r1
   have rm3 : ∀ r, rm = some r → W3.heap[r]? = W.heap[r]? ∧ ∀ n t, E3.T n = some t → blk t.2.2 ≠ some r := fun r e => by
    obtain ⟨⟨o, h1, _⟩, h2⟩ := hm1 r e
    have h4 := rmb r e
    rw [h1] at h4 ⊢
    refine ⟨r1.x.oth r o h4 (um2 r e), fun n t ht hb => ?_⟩
    obtain ⟨t0, h5, h6⟩ := r1.x.nb n t r o ht hb h4
    exact um2 r e n t0 h5 h6
   have x3 : ∀ b, X b → W3.heap[b]? = W.heap[b]? ∧ ∀ n t, E3.T n = some t → blk t.2.2 ≠ some b := fun b hX => by
    obtain ⟨q1', q2', q3'⟩ := hX1 b hX
    have h4 := xb b hX
    rw [Array.getElem?_eq_getElem q2'] at h4 ⊢
    refine ⟨r1.x.oth b _ h4 (ux2 b hX), fun n t ht hb => ?_⟩
    obtain ⟨t0, h5, h6⟩ := r1.x.nb n t b _ ht hb h4
    exact ux2 b hX n t0 h5 h6
   have nc3 : ∀ (b : Nat) (o : Obj), w.heap.size ≤ b → b ≠ w.heap.size + 1 → W.heap[b]? = some o → o.isCells = false → W3.heap[b]? = some o := fun b o hb hne ho hf => by
    have h3 := q1.x.oth b o ho (unt hb ho hf)
    have h4 : Wb.heap[b]? = some o := (grb.block b (Array.getElem?_eq_some_iff.1 h3).1 (by simp; omega)).trans h3
    refine r1.x.oth b o h4 fun n t ht hb' => ?_
    obtain ⟨t0, h5, h6⟩ := q1.x.nb n t b o ht hb' ho
    exact unt hb ho hf n t0 h5 h6
   have own : ∀ {Gk : Nat → Option GObj} {m : Nat}, st.nx ≤ m → m ≤ st'.nx → (∀ n o, Gk n = some o → st'.G n = some o) → (∀ n o, Gk n = some o → n < m ∧ o.low m ∧ (st.nx ≤ n → o.isC = true)) → OwnM rm (w.heap.size + 2) X E w Gk m W3 := fun {Gk m} hm hm' hsub hlw => by
    have hE3 := r2.g.nx
    refine ⟨E3.few (fun n => n < m ∧ (n < st.nx ∨ Gk n ≠ none)) m, (evb.trans r1).few _ (by omega), (r2.g.weak hsub).few (fun n o ho => ⟨⟨(hlw n o ho).1, .inr (by simp [ho])⟩, (hlw n o ho).2.1⟩) fun n h => h.1, fun n t b o hlt ht hb ho hf => ?_, fun r e => ⟨?_, fun n t ht => (rm3 r e).2 n t (Env.few_T ht).2⟩, fun b hX => ⟨(hX1 b hX).1, ?_, fun n t ht => (x3 b hX).2 n t (Env.few_T ht).2⟩⟩
    ·obtain ⟨⟨_, h1⟩, h2⟩ := Env.few_T ht
     by_cases h3 : n < st.nx
     ·exact nb3 n t b o h3 h2 hb ho hf
     ·obtain ⟨ob, h4⟩ := Option.ne_none_iff_exists'.1 (h1.resolve_left h3)
      have := ObjOk.isC (r2.g.obj n ob (hsub n ob h4)) ((hlw n ob h4).2.2 (by omega)) h2 hb ho
      rw [hf] at this; cases this
    ·obtain ⟨o, h1, h2⟩ := (hm1 r e).1
     exact ⟨o, (rm3 r e).1.trans h1, h2⟩
    ·have := (x3 b hX).1
     rw [Array.getElem?_eq_getElem (hX1 b hX).2.1] at this
     exact (Array.getElem?_eq_some_iff.1 this).1
   have hmap : (pre ++ [x]).map Subtype.val = pre.map Subtype.val ++ [x.1] := by simp
   -- the end of the round
   have fin : ∀ (jump : Option Code), (Instr.endRound (w.heap.size + 1) jump).run P W3 = .ok (.bool jump.isNone) (W3.putObj (w.heap.size + 1) (.loop (rc (if jump.isNone then .ready else .done) jump))) ∧
     (W3.putObj (w.heap.size + 1) (.loop (rc (if jump.isNone then .ready else .done) jump))).heap[w.heap.size + 1]? = some (.loop (rc (if jump.isNone then .ready else .done) jump)) ∧
     (W3.putObj (w.heap.size + 1) (.loop (rc (if jump.isNone then .ready else .done) jump))).heap[w.heap.size]? = some (.deferred (some [])) := fun jump => by
    refine ⟨?_, World.putObj_heap_same (Array.getElem?_eq_some_iff.1 hl3).1, (World.putObj_heap_other (by omega)).trans hk3⟩
    have := run_endRound (P := P) jump hl3
    rw [hrc] at this ⊢
    exact this
   have keep : KeepG rm E w X W (W3.putObj (w.heap.size + 1) (.loop (rc (if (none : Option Code).isNone then .ready else .done) none))) := ⟨⟨by
    rw [World.putObj_size]
    exact Nat.le_trans q1.below.size (Nat.le_trans grb.size r1.below.size), fun b i hi => by
    have hne : b ≠ w.heap.size + 1 := fun e => by subst e; rw [hs.g.fresh _ (by omega)] at hi; omega
    refine (World.cell?_of_block (w := W3) (World.putObj_heap_other hne)).trans ?_
    have h1 : i < E1.L b := Nat.lt_of_lt_of_le hi (hev.L b)
    have h2 : i < E2.L b := Nat.lt_of_lt_of_le h1 (q1.L b)
    exact (r1.cell b i h2).trans ((hcellb b i h2).trans (q1.cell b i h1))⟩, fun r e => by
    have := hrlt r e
    exact (World.putObj_heap_other (by omega)).trans (rm3 r e).1, fun b hX => by
    have := (hX1 b hX).1
    exact (World.putObj_heap_other (by omega)).trans (x3 b hX).1, fun b o hb ho hf => by
    by_cases e : b = w.heap.size + 1
    ·subst e
     rw [World.putObj_heap_same (Array.getElem?_eq_some_iff.1 hl3).1, ← ho, hl]; rfl
    ·exact (World.putObj_heap_other e).trans (nc3 b o hb e ho hf)⟩
   have keepX : ∀ jump, KeepsFrom W1.heap.size W (W3.putObj (w.heap.size + 1) (.loop (rc (if jump.isNone then .ready else .done) jump))) := fun jump => ⟨by
    rw [World.putObj_size]
    exact Nat.le_trans q1.below.size (Nat.le_trans grb.size r1.below.size), fun b o hb ho hf => (World.putObj_heap_other (by omega)).trans (nc3 b o (by omega) (by omega) ho hf)⟩
   cases e with
   | normal =>
    obtain ⟨h1, h2, h3⟩ := fin none
    refine ⟨_, _, h1, .inl ⟨rfl, ⟨?_, h2, h3⟩, keep⟩⟩
    rw [hmap]
    exact (own (hN _) r3.2 r3.1 (hlow (hN _) (hJ _))).put hs.g hrm' (by have := (Array.getElem?_eq_some_iff.1 hl3).1; omega) (by omega) hl3 rfl _
   | ret =>
    obtain ⟨h1, h2, h3⟩ := fin (some .ret)
    obtain ⟨y, k1, k2, k3⟩ := r3
    exact ⟨_, _, h1, .inr ⟨rfl, ⟨.ret, y, by rw [hmap]; exact k1, (own (hNx _ _ y k1) k3 k2 (hlow (hNx _ _ y k1) (hGx _ _ y k1))).put hs.g hrm' (by have := (Array.getElem?_eq_some_iff.1 hl3).1; omega) (by omega) hl3 rfl _, h2, h3⟩, keepX _⟩⟩
   | exit id =>
    obtain ⟨h1, h2, h3⟩ := fin (some (.exit id))
    obtain ⟨y, k1, k2, k3⟩ := r3
    exact ⟨_, _, h1, .inr ⟨rfl, ⟨.exit id, y, by rw [hmap]; exact k1, (own (hNx _ _ y k1) k3 k2 (hlow (hNx _ _ y k1) (hGx _ _ y k1))).put hs.g hrm' (by have := (Array.getElem?_eq_some_iff.1 hl3).1; omega) (by omega) hl3 rfl _, h2, h3⟩, keepX _⟩⟩
   | goto l' =>
    obtain ⟨h1, h2, h3⟩ := fin (some (.goto l'))
    obtain ⟨y, k1, k2, k3⟩ := r3
    exact ⟨_, _, h1, .inr ⟨rfl, ⟨.goto l', y, by rw [hmap]; exact k1, (own (hNx _ _ y k1) k3 k2 (hlow (hNx _ _ y k1) (hGx _ _ y k1))).put hs.g hrm' (by have := (Array.getElem?_eq_some_iff.1 hl3).1; omega) (by omega) hl3 rfl _, h2, h3⟩, keepX _⟩⟩
   | panic c => exact r3.elim
   | outgrown => exact r3.elim
  | _ => exact q3.elim
 ·-- behind the iterator
  rintro e W2 ⟨⟨v, rfl⟩, (⟨zs, X, hz, hI, hl, hk⟩ | ⟨pre, X, hz, c, y, hi, hI, hl, hk⟩)⟩
  ·obtain ⟨E1, hev, hs1, hn, _⟩ := hI.put hs.g hrm' (by have := (Array.getElem?_eq_some_iff.1 hl).1; omega) (by omega) hl rfl (.loop { rc .ready none with state := .exhausted })
   have hK : (W2.putObj (w.heap.size + 1) (.loop { rc .ready none with state := .exhausted })).heap[w.heap.size]? = some (.deferred (some [])) := (World.putObj_heap_other (by omega)).trans hk
   rw [hz] at hs1 hn
   exact ⟨none, _, by have := run_endLoop (P := P) hl (by rw [hrc]; simp); rw [hrc] at this ⊢; exact this, _, E1, hev, simAt hev hs1 (marked hev (fun n t ht => hs1.nx ▸ hs1.lt n t ht) hn (Nat.le_refl _) hK), done⟩
  ·obtain ⟨E1, hev, hs1, hn, _⟩ := hI.put hs.g hrm' (by have := (Array.getElem?_eq_some_iff.1 hl).1; omega) (by omega) hl rfl (.loop { rc .done (some c) with state := .exhausted })
   have hK : (W2.putObj (w.heap.size + 1) (.loop { rc .done (some c) with state := .exhausted })).heap[w.heap.size]? = some (.deferred (some [])) := (World.putObj_heap_other (by omega)).trans hk
   refine ⟨some c, W2.putObj (w.heap.size + 1) (.loop { rc .done (some c) with state := .exhausted }), by rw [run_endLoop (P := P) hl (by rw [hrc]; simp), hrc], ?_⟩
   have h2 := cwp_n (m := 3) (stop c _ y hz hi E1 _ _ (simAt hev hs1 (marked hev (fun n t ht => hs1.nx ▸ hs1.lt n t ht) hn (Nat.le_refl _) hK)))
   exact wpIn_mono h2 fun _ _ _ hq => lift_trans hev hq
theorem aw_rangeFuncN {P : Program} {β Y : Type} {g : Operand} {ps : Array Tmp} {assign body : Code} {Q : Exit → St → Prop} {st : St} {gf : Nat} [Fun P gf] {caps : List C} {xs : List β} {encv : β → List Value} (cl : β → List C) (pl : List Tmp)
  (J : List β → Nat → Option GObj) (N : List β → Nat) (IxA : Code → List β → Y → Prop) (Gx : Y → Nat → Option GObj) (Nx : Y → Nat) (u : β → List (Nat × C)) (it : IterOk P gf caps xs encv)
  (hg : evC st g = .fn (.func gf) caps) (hps : ps = pl.toArray) (hlen : ∀ x, (encv x).length = pl.length) (hcl : ∀ x ∈ xs, ∀ E W, Rs E W (cl x) (encv x))
  (hu : ∀ pre x, putL pl (cl x) { st with G := J pre, nx := N pre, df := 0 } = { st with r := u x, G := J pre, nx := N pre, df := 0 })
  (h0 : ∀ n o, J [] n = some o → st.G n = some o) (n0 : N [] = st.nx) (hN : ∀ zs, st.nx ≤ N zs) (hNx : ∀ c zs y, IxA c zs y → st.nx ≤ Nx y) (hJ : ∀ zs, NewOk st (J zs) (N zs)) (hGx : ∀ c zs y, IxA c zs y → NewOk st (Gx y) (Nx y))
  (round : ∀ l pre x, x ∈ xs → pre.length < xs.length → (∀ y ∈ pre, y ∈ xs) → AW (some l) P assign (AThen (AW (some l) P body (RPostN J N IxA Gx Nx (pre ++ [x]))) fun _ _ => False) { st with r := u x, G := J pre, nx := N pre, df := 0 })
  (stop : ∀ c pre y, pre <+: xs → IxA c pre y → AW none P c Q { st with G := Gx y, nx := Nx y, df := st.df + 1 })
  (done : Q .normal { st with G := J xs, nx := N xs, df := st.df + 1 }) : AW none P (.rangeFunc g ps assign body) Q st := fun E w a hs =>
 let ⟨vs, hgv, hvs⟩ := (hg ▸ hs.ev g).fn_inv
 rangeFunc_g none 0 cl pl J N IxA Gx Nx u hs (it E w vs hvs hs.g.fresh).g (fun r e => by cases e) hgv hps hlen hcl hu h0 n0 hN hNx hJ hGx round stop done
end Go.AB
namespace Go.AB
open Go Go.RowKit
open Go.AB.Enc (cells)
/-- The contract of an iterator's value that turns the map M. -/
def IterM (P : Program) (gf : Nat) (caps : List C) (M : Nat) (o : GObj) {β : Type} (xs : List β) (encv : β → List Value) : Prop :=
 ∀ (E : Env) (w : World) (lb : List Value) (G : Nat → Option GObj) (nx : Nat), Rs E w caps lb → SimG E w G nx → G M = some o → ∃ r, (∃ t, E.T M = some t ∧ blk t.2.2 = some r) ∧ (∃ ob : Obj, w.heap[r]? = some ob ∧ ob.isCells = false) ∧ IterG P gf (some r) E w lb xs encv
theorem aw_rangeFuncM {P : Program} {β Y : Type} {g : Operand} {ps : Array Tmp} {assign body : Code} {Q : Exit → St → Prop} {st : St} {gf : Nat} [Fun P gf] {caps : List C} {xs : List β} {encv : β → List Value} (M : Nat) {o : GObj} (cl : β → List C) (pl : List Tmp)
  (J : List β → Nat → Option GObj) (N : List β → Nat) (IxA : Code → List β → Y → Prop) (Gx : Y → Nat → Option GObj) (Nx : Y → Nat) (u : β → List (Nat × C)) (it : IterM P gf caps M o xs encv) (hM : st.G M = some o) (hJM : J [] M = none)
  (hg : evC st g = .fn (.func gf) caps) (hps : ps = pl.toArray) (hlen : ∀ x, (encv x).length = pl.length) (hcl : ∀ x ∈ xs, ∀ E W, Rs E W (cl x) (encv x))
  (hu : ∀ pre x, putL pl (cl x) { st with G := J pre, nx := N pre, df := 0 } = { st with r := u x, G := J pre, nx := N pre, df := 0 })
  (h0 : ∀ n o, J [] n = some o → st.G n = some o) (n0 : N [] = st.nx) (hN : ∀ zs, st.nx ≤ N zs) (hNx : ∀ c zs y, IxA c zs y → st.nx ≤ Nx y) (hJ : ∀ zs, NewOk st (J zs) (N zs)) (hGx : ∀ c zs y, IxA c zs y → NewOk st (Gx y) (Nx y))
  (round : ∀ l pre x, x ∈ xs → pre.length < xs.length → (∀ y ∈ pre, y ∈ xs) → AW (some l) P assign (AThen (AW (some l) P body (RPostN J N IxA Gx Nx (pre ++ [x]))) fun _ _ => False) { st with r := u x, G := J pre, nx := N pre, df := 0 })
  (stop : ∀ c pre y, pre <+: xs → IxA c pre y → AW none P c Q { st with G := Gx y, nx := Nx y, df := st.df + 1 })
  (done : Q .normal { st with G := J xs, nx := N xs, df := st.df + 1 }) : AW none P (.rangeFunc g ps assign body) Q st := fun E w a hs => by
 obtain ⟨vs, hgv, hvs⟩ := (hg ▸ hs.ev g).fn_inv
 obtain ⟨r, h1, h2, h3⟩ := it E w vs st.G st.nx hvs hs.g hM
 exact rangeFunc_g (some r) M cl pl J N IxA Gx Nx u hs h3 (fun r' e => by cases e; exact ⟨h1, h2, hJM⟩) hgv hps hlen hcl hu h0 n0 hN hNx hJ hGx round stop done
/-! ### Steps by hand -/
theorem wpl_value {ρ : Option Nat} {P : Program} {ops : Array Oper} {Q : Exit → Act → World → Prop} {o : Oper} {rest : List Oper} {a : Act} {w w' : World} {v : Value} (hg : o.guard = none) (hd : ∀ c, o.op ≠ .defer c) (hrun : (execOp a.eval o).run P w = .ok (.value v) w') (h : wpListIn (fen ρ) 1 P ops Q rest (a.put o.dst v) w') : wpListIn (fen ρ) 1 P ops Q (o :: rest) a w :=
 wpListIn_plain hg fun K hK => oper_fen (Q := Q) hd (by unfold Oper.wp; rw [hrun]; exact hK _ _ h)
theorem wpl_call {ρ : Option Nat} {P : Program} {ops : Array Oper} {Q : Exit → Act → World → Prop} {o : Oper} {rest : List Oper} {a : Act} {w w' : World} {f : FuncId} {args : Array Value} {v : Value} (hg : o.guard = none) (hd : ∀ c, o.op ≠ .defer c) (hrun : (execOp a.eval o).run P w = .ok (.enter f args) w)
  (hc : Calls P f args w fun e w2 => e = .returned v ∧ w2 = w') (h : wpListIn (fen ρ) 1 P ops Q rest (a.put o.dst v) w') : wpListIn (fen ρ) 1 P ops Q (o :: rest) a w :=
 wpListIn_plain hg fun K hK => oper_fen (Q := Q) hd (by
  unfold Oper.wp
  rw [hrun]
  refine hc.mono ?_
  rintro e w2 ⟨rfl, rfl⟩
  exact hK _ _ h)
theorem wpl_round {ρ : Option Nat} {P : Program} {ops : Array Oper} {Q : Exit → Act → World → Prop} {o : Oper} {rest : List Oper} {a : Act} {w : World} {l : Nat} {f : FuncId} {tmps : Array Value} {assign body : Code} {R : Ending → World → Prop} (hg : o.guard = none) (hd : ∀ c, o.op ≠ .defer c) (hrun : (execOp a.eval o).run P w = .ok (.round l f tmps assign body) w)
  (hc : RoundIn (fen none) 1 P l f tmps assign body w R) (h : ∀ e w', R e w' → ∃ v, e = .returned v ∧ wpListIn (fen ρ) 1 P ops Q rest (a.put o.dst v) w') : wpListIn (fen ρ) 1 P ops Q (o :: rest) a w :=
 wpListIn_plain hg fun K hK => by
  refine ⟨fun _ _ => trivial, ?_⟩
  rw [Oper.semAt_eq _ _ _ hd, hrun]
  refine ⟨fun e => (by cases e), ?_⟩
  have h2 : RoundIn (fen none) 0 P l f tmps assign body w R := roundIn_n hc
  refine RoundIn.mono (F := fen ρ) h2 ?_
  intro e w' hr
  obtain ⟨v, rfl, h3⟩ := h e w' hr
  exact hK _ _ h3
/-! ### A map, and nothing else -/
def MapIs (P : Program) (k : TypeId) {α : Type} [KeyV α] (r : Nat) (m : α → Option C) (W : World) : Prop := ∃ es clock, W.heap[r]? = some (.map es clock) ∧ es.all (·.born < clock) = true ∧ MapOk (itE fun _ => 0) W (okK P k α) (mapV m) es.toList clock
def ExactM {α : Type} (m : α → Option C) : Prop := ∀ s c, m s = some c → ∃ v, c = .v v
def mapE (L : Nat → Nat) (r k : Nat) : Env := ⟨0, L, fun n => if n = 0 then some (0, 0, .map (some r)) else if n ≤ k then some (0, 0, undef) else none, k + 1, 0⟩
def mapGO (o : GObj) (facts : List (Value × C)) : Nat → Option GObj
 | 0 => some o
 | n + 1 => (facts[n]?).map fun p => .fact p.1 p.2
theorem mapE_blk {L : Nat → Nat} {r k n : Nat} {t : Nat × Nat × Value} {b : Nat} (h : (mapE L r k).T n = some t) (hb : blk t.2.2 = some b) : n = 0 ∧ b = r := by
 simp only [mapE] at h
 split at h
 ·rename_i e; cases h; cases hb; exact ⟨e, rfl⟩
 ·split at h
  ·cases h; cases hb
  ·cases h
theorem mapE_elem {L : Nat → Nat} {r n bb oo : Nat} {W : World} (h1 : oo + 1 ≤ L bb) (h2 : W.cell? ⟨bb, oo, none⟩ = some (.map (some r))) : R (mapE L r n) W (.elem [.map 0]) (.pointer (some ⟨bb, oo, none⟩)) := by
 refine .elem (us := fun _ => .map (some r)) (by simp) (by simp [C.one]) (.inr ⟨bb, oo, rfl, by simpa [mapE] using h1, fun j hj => ?_⟩) fun j c hc => ?_
 ·obtain rfl : j = 0 := by simp at hj; omega
  exact h2
 ·cases j with
  | zero =>
   simp only [List.getElem?_cons_zero, Option.some.injEq] at hc
   subst hc
   refine .map (Nat.succ_pos _) fun ver wv val ht _ => ?_
   simp only [mapE, if_true] at ht
   cases ht; rfl
  | succ j => simp at hc
section
variable {P : Program} {k : TypeId} {α : Type} [KeyV α] {r : Nat} {m : α → Option C} {L : Nat → Nat} {W W' : World} {st : St} {a : Act}
theorem map_seg {facts : List (Value × C)} (hfr : ∀ b, W.heap.size ≤ b → L b = 0) (hs : Sim (itE L) W st a) (hdf : st.df = 0) (hm : MapIs P k r m W) (hf : ∀ p ∈ facts, R (mapE L r facts.length) W p.2 p.1) : Sim (mapE L r facts.length) W { st with G := mapGO (gmap P k 0 m) facts, nx := facts.length + 1 } a := by
 obtain ⟨es, clock, h1, h2, h3⟩ := hm
 have hdef : a.defers = [] := List.eq_nil_of_length_eq_zero (hs.d.2.trans hdf)
 refine ⟨⟨?_, hs.d.2⟩, hs.sz, fun i v hv => (hs.t i v hv).bare (E := itE L) (E' := mapE L r facts.length) rfl (fun _ => Nat.le_refl _) (fun _ _ _ => rfl), ⟨rfl, fun n o ho => ?_, fun n t ht => ?_, fun n ver wv val b ht hb => ?_, fun n m t t' b ht ht' hne hb hb' => ?_, fun b hb => hfr b hb, Nat.zero_le _⟩⟩
 ·rw [hdef]; exact Nat.zero_le _
 ·cases n with
  | zero =>
   cases ho
   exact ⟨r, es, clock, rfl, h1, h3.imp fun x c v _ hr => hr.bare rfl (fun _ => Nat.zero_le _) (fun _ _ h => absurd h (Nat.not_lt_zero _)), h2⟩
  | succ n =>
   simp only [mapGO, Option.map_eq_some_iff] at ho
   obtain ⟨p, hp, rfl⟩ := ho
   have hlt := (List.getElem?_eq_some_iff.1 hp).1
   refine ⟨?_, hf p (List.mem_of_getElem? hp)⟩
   simp only [mapE]
   rw [if_neg (by omega), if_pos (by omega)]
 ·simp only [mapE] at ht ⊢
  split at ht
  ·omega
  ·split at ht
   ·omega
   ·cases ht
 ·obtain ⟨_, e⟩ := mapE_blk ht hb
  subst e
  exact ⟨Nat.zero_le _, (Array.getElem?_eq_some_iff.1 h1).1⟩
 ·exact hne ((mapE_blk ht hb).1.trans (mapE_blk ht' hb').1.symm)
theorem map_seg_end {n wv : Nat} {E' : Env} {st' : St} {a' : Act} {m' : α → Option C} (hfr : ∀ b, W.heap.size ≤ b → L b = 0) (hr : ∃ o : Obj, W.heap[r]? = some o ∧ o.isCells = false) (hev : Ev (mapE L r n) W E' W') (hs : Sim E' W' st' a') (hdf : st'.df = 0) (hG : st'.G 0 = some (gmap P k wv m')) (hex : ExactM m') :
  Sim (itE L) W' (exSt st') a' ∧ KeepL (itE L) W W' ∧ W.grownBy W' (some r) ∧ MapIs P k r m' W' := by
 have hb := hev.below
 have hdef : a'.defers = [] := List.eq_nil_of_length_eq_zero (hs.d.2.trans hdf)
 obtain ⟨r', es, clock, q1, q2, q3, q4⟩ := hs.g.obj 0 _ hG
 obtain ⟨ver, wv0, val, p1, p2, p3⟩ := hev.T 0 (Nat.succ_pos _) _ _ _ q1
 have e0 : (mapE L r n).T 0 = some (0, 0, .map (some r)) := rfl
 rw [e0] at p1
 cases p1
 have hval := (p3 rfl).1
 simp only [Value.map.injEq, Option.some.injEq] at hval
 subst hval
 refine ⟨⟨⟨?_, hs.d.2⟩, hs.sz, fun i v hv => ?_, ⟨rfl, fun n o ho => (by cases ho), fun n t ht => (by cases ht), fun n ver wv val b ht => (by cases ht), fun n m t t' b ht => (by cases ht), fun b h => hfr b (Nat.le_trans hb.size h), Nat.zero_le _⟩⟩, ⟨hb.size, fun b i hi => hev.cell b i hi⟩, ⟨hb.os, hb.tape, hb.output, hb.size, fun b hlt hne => ?_⟩, es, clock, q2, q4, q3.ok, q3.pw, q3.pb, fun e he => ?_, q3.has⟩
 ·rw [hdef]; exact Nat.zero_le _
 ·simp only [exSt]
  rw [getA_ex]
  exact (hs.t i v hv).ex
 ·have h1 : W.heap[b]? = some W.heap[b] := Array.getElem?_eq_getElem hlt
  rw [h1]
  exact hev.x.oth b _ h1 fun n t ht hb' => hne (by rw [(mapE_blk ht hb').2])
 ·obtain ⟨c, h1, h2⟩ := q3.val e he
  refine ⟨c, h1, ?_⟩
  obtain ⟨x, l, hx, _⟩ := q3.ok e he
  rw [hx, mapV_kv] at h1
  obtain ⟨v, rfl⟩ := hex x c h1
  exact h2.ex (E' := itE fun _ => 0) (W' := W')
end
end Go.AB

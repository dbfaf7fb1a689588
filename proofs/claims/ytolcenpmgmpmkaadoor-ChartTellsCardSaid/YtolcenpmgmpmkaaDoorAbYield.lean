/-
  Iterators: their bodies; slots are known as values; what has come, and whether a round has said that no more is asked for.
-/
import Derived.Test.YtolcenpmgmpmkaaDoorAbIter
namespace Go.AB
open Go Go.RowKit

/-- Values alone. -/
def exC : C → C
  | .v x => .v x
  | _ => .any
theorem R.ex {E E' : Env} {W W' : World} {c : C} {v : Value} (h : R E W c v) : R E' W' (exC c) v := by
  cases c with
  | v x =>
    have := h.v_inv
    cases h with
    | v h1 => exact .v h1
  | _ => exact .any
def noG : Nat → Option GObj := fun _ => none
def exSt (st : St) : St := { n := st.n, l := st.l.map exC, r := st.r.map fun p => (p.1, exC p.2), G := noG, nx := 0, df := st.df }
theorem getA_ex (l : List C) (r : List (Nat × C)) (i : Nat) : getA (l.map exC) (r.map fun p => (p.1, exC p.2)) i = exC (getA l r i) := by
  induction r with
  | nil =>
    simp only [getA, List.map_nil, List.getD_eq_getElem?_getD, List.getElem?_map]
    cases l[i]? <;> rfl
  | cons p r ih =>
    simp only [getA, List.map_cons]
    cases Nat.beq p.1 i
    · exact ih
    · rfl
theorem R.bare {E E' : Env} {W W' : World} (h0 : E.nx = 0) (hL : ∀ b, E.L b ≤ E'.L b) (hc : ∀ b i, i < E.L b → W'.cell? ⟨b, i, none⟩ = W.cell? ⟨b, i, none⟩) {c : C} {x : Value} (hr : R E W c x) : R E' W' c x := by
  induction hr with
  | v hx => exact .v hx
  | list h1 h2 h3 h4 h5 h6 _ z1 z2 h8 ih => exact .list h1 h2 h3 h4 h5 (h6.same hL hc) ih z1 z2 fun n h => by have := (h8 n h).1; omega
  | elem h1 h2 h3 _ ih => exact .elem h1 h2 (h3.same hL hc) ih
  | box h1 h2 => omega
  | arr h1 h2 h3 h4 => omega
  | own h1 h2 h3 h4 => omega
  | fn h1 _ h3 ih => exact .fn h1 ih h3
  | map h1 h2 => omega
  | agg h1 h2 _ h4 ih => exact .agg h1 h2 ih h4
  | tup h1 _ h3 ih => exact .tup h1 ih h3
  | any => exact .any
theorem DefN.imp {E E' : Env} {w : World} (hF : E'.F = E.F) (hT : ∀ n t b, E'.T n = some t → blk t.2.2 = some b → ∃ t0, E.T n = some t0 ∧ blk t0.2.2 = some b)  {n : Nat} {ds : List Deferred} (h : DefN E w n ds) : DefN E' w n ds := by
  refine ⟨?_, h.2⟩
  have := h.1
  clear h
  induction ds with
  | nil => show E'.F ≤ w.heap.size; rw [hF]; exact this
  | cons d ds ih =>
    obtain ⟨⟨D, e, h1, h2, h3, h4⟩, k⟩ := this
    exact ⟨⟨D, e, by rw [hF]; exact h1, h2, fun n t ht hb => let ⟨t0, q1, q2⟩ := hT n t D ht hb; h3 n t0 q1 q2, h4⟩, ih k⟩

/-- What a value is known as, whatever the names. -/
def Known (L : Nat → Nat) (Ws : World) (v : Value) (c : C) : Prop := ∀ (E : Env) (W : World), (∀ b, L b ≤ E.L b) → (∀ b i, i < L b → W.cell? ⟨b, i, none⟩ = Ws.cell? ⟨b, i, none⟩) → R E W c v
theorem Known.of {E : Env} {Ws : World} {v : Value} {c : C} (h0 : E.nx = 0) (h : R E Ws c v) : Known E.L Ws v c := fun _ _ hL hc => h.bare h0 hL hc

def itE (L : Nat → Nat) : Env := ⟨0, L, fun _ => none, 0, 0⟩
def factG (facts : List (Value × C)) : Nat → Option GObj := fun n => (facts[n]?).map fun p => .fact p.1 p.2

/-- An iterator at work: what lay when it began; what is laid; the two invariants of who asks. -/
structure ItC (β : Type) where
  xs : List β
  encv : β → List Value
  L : Nat → Nat
  Ws : World
  l : Nat
  J : List { x // x ∈ xs } → World → Prop
  Jx : List { x // x ∈ xs } → World → Prop

section
variable {β : Type} (P : Program) (I : ItC β)
structure ItC.Ok : Prop where
  fr : ∀ b, I.Ws.heap.size ≤ b → I.L b = 0
  aJ : AbidesFrom I.Ws.heap.size I.J
  aJx : AbidesFrom I.Ws.heap.size I.Jx
  hY : ∀ (pre : List { x // x ∈ I.xs }) (x : { x // x ∈ I.xs }) (W : World), I.J pre W → pre.length < I.xs.length → YieldAt (fen none) 1 P I.l (I.encv x.1).toArray W fun e W' =>
    (e = .returned (.bool true) ∧ I.J (pre ++ [x]) W' ∧ KeepL (itE I.L) W W') ∨ (e = .returned (.bool false) ∧ I.Jx (pre ++ [x]) W')

/-- The state of an iterator: y.1: no more is asked for; y.2: what has come. -/
def IterS (st : St) (y : Bool × List β) (W : World) (a : Act) : Prop :=
  match y.1 with
  | false => st.df = 0 ∧ Sim (itE I.L) W st a ∧ KeepL (itE I.L) I.Ws W ∧ ∃ pre, pre.map Subtype.val = y.2 ∧ I.J pre W
  | true => st.df = 0 ∧ Sim (itE fun _ => 0) W st a ∧ ∃ pre, pre.map Subtype.val = y.2 ∧ I.Jx pre W
def IW (c : Code) (Q : Exit → St → Bool × List β → Prop) (st : St) (y : Bool × List β) : Prop :=
  ∀ W a, IterS I st y W a → cwp none P c (fun e a' W' => ∃ st' y', IterS I st' y' W' a' ∧ Q e st' y') a W
def IThen (K : St → Bool × List β → Prop) (Q : Exit → St → Bool × List β → Prop) : Exit → St → Bool × List β → Prop
  | .normal, st, y => K st y
  | e, st, y => Q e st y
def IBlock (id : Nat) (Q : Exit → St → Bool × List β → Prop) : Exit → St → Bool × List β → Prop
  | .exit id', st, y => if id' = id then Q .normal st y else Q (.exit id') st y
  | e, st, y => Q e st y
def IOps (ops : Array Oper) (K : St → Bool × List β → Prop) (rest : List Oper) (st : St) (y : Bool × List β) : Prop :=
  ∀ W a, IterS I st y W a → ∀ Q : Exit → Act → World → Prop, (∀ a' W' st' y', IterS I st' y' W' a' → K st' y' → Q .normal a' W') → wpListIn (fen none) 1 P ops Q rest a W
end

section
variable {β : Type} {P : Program} {I : ItC β} {Q : Exit → St → Bool × List β → Prop} {st : St} {y : Bool × List β}
theorem iw_skip (h : Q .normal st y) : IW P I .skip Q st y := fun _ _ hs => wpIn_skip ⟨st, y, hs, h⟩
theorem iw_exit {id : Nat} (h : Q (.exit id) st y) : IW P I (.exit id) Q st y := fun _ _ hs => wpIn_exit ⟨st, y, hs, h⟩
theorem iw_ret (h : Q .ret st y) : IW P I .ret Q st y := fun _ _ hs => wpIn_ret ⟨st, y, hs, h⟩
theorem iw_seq_k {x z : Code} (h : ∀ K : St → Bool × List β → Prop, (∀ st' y', IW P I z Q st' y' → K st' y') → IW P I x (IThen K Q) st y) : IW P I (.seq x z) Q st y := by
  intro W a hs
  refine wpIn_seq (wpIn_mono (h _ (fun _ _ h => h) W a hs) ?_)
  rintro e a' W' ⟨st', y', h1, h2⟩
  cases e with
  | normal => exact h2 W' a' h1
  | _ => exact ⟨st', y', h1, h2⟩
theorem iw_block {id : Nat} {c : Code} (h : IW P I c (IBlock id Q) st y) : IW P I (.block id c) Q st y := by
  intro W a hs
  refine wpIn_block (wpIn_mono (h W a hs) ?_)
  rintro e a' W' ⟨st', y', h1, h2⟩
  cases e with
  | exit id' =>
    simp only [IBlock] at h2
    simp only [Exit.inBlock]
    split at h2
    · rename_i e; rw [if_pos e]; exact ⟨st', y', h1, h2⟩
    · rename_i e; rw [if_neg e]; exact ⟨st', y', h1, h2⟩
  | _ => exact ⟨st', y', h1, h2⟩
theorem IterS.simE {W : World} {a : Act} (h : IterS I st y W a) : ∃ L, Sim (itE L) W st a := by
  obtain ⟨b, zs⟩ := y
  cases b with
  | false => exact ⟨_, h.2.1⟩
  | true => exact ⟨_, h.2.1⟩
theorem iw_cond {c : Operand} {x z : Code} {b : Bool} (hc : evC st c = .v (.bool b)) (ht : b = true → IW P I x Q st y) (hf : b = false → IW P I z Q st y) : IW P I (.cond c x z) Q st y := by
  intro W a hs
  obtain ⟨L, hsim⟩ := hs.simE
  have := (hc ▸ hsim.ev c).v_inv
  exact wpIn_cond_split this (fun e => ht e W a hs) (fun e => hf e W a hs)
theorem IterS.le {st' : St} {W : World} {a : Act} (h : IterS I st y W a) (hdf : st'.df = st.df) (hl : ∀ E, Sim E W st a → Sim E W st' a) : IterS I st' y W a := by
  obtain ⟨b, zs⟩ := y
  cases b with
  | false => exact ⟨hdf.trans h.1, hl _ h.2.1, h.2.2⟩
  | true => exact ⟨hdf.trans h.1, hl _ h.2.1, h.2.2⟩
theorem iw_wipe {c : Code} (k : Nat) (h : IW P I c Q { st with l := firsts st.l st.r 0 k, r := [] } y) : IW P I c Q st y := fun W a hs => h W a (hs.le rfl fun _ hs => hs.wipe k)
theorem fits_sim {E : Env} {W : World} {st' : St} {u : List (Nat × C)} {a : Act} (hr : st.r = []) (hb : Back st u st.G st') (hG : st'.G = st.G) (hn : st'.nx = st.nx) (hs : Sim E W st' a) : Sim E W { st with r := u } a := by
  refine ⟨hb.n.2 ▸ hs.d, hs.sz.trans hb.n.1, fun i v hv => ?_, hG ▸ hn ▸ hs.g⟩
  have hcl : getA st.l u i = .any ∨ getA st.l u i = getA st'.l st'.r i := by
    by_cases hi : i < st.l.length
    · rcases fitsN_spec _ _ hb.fits i (Nat.zero_le _) (by omega) with h | h
      · exact .inl h
      · exact .inr h.symm
    · rcases getA_cases st.l u i with ⟨p, hp, he, he2⟩ | ⟨_, he⟩
      · rcases hb.keys with hk | hk
        · have := keysLt_spec hk p hp; omega
        · rcases fitsU_spec hk p hp with h | h
          · left; rw [he2, h]
          · right; rw [he2, ← h, he]
      · left; rw [he, List.getD_eq_getElem?_getD, List.getElem?_eq_none (by omega)]; rfl
  rcases hcl with h | h
  · rw [h]; exact .any
  · rw [h]; exact hs.t i v hv
theorem iw_loop {X : Type} {c : Code} (Inv : X → Prop) (μ : X → Nat) (u : X → List (Nat × C)) (yy : X → Bool × List β) (x0 : X) (hr : st.r = []) (h0 : Inv x0) (e0 : FitsU st.l [] (u x0)) (hy : y = yy x0)
    (round : ∀ x, Inv x → IW P I c (IThen (fun st' y' => ∃ x', μ x' < μ x ∧ Inv x' ∧ y' = yy x' ∧ st'.G = st.G ∧ st'.nx = st.nx ∧ Back st (u x') st.G st') Q) { st with r := u x } (yy x)) : IW P I (.loop c) Q st y := by
  intro W a hs
  refine cwp_loop (fun m a1 W1 => ∃ x, m = μ x ∧ Inv x ∧ IterS I { st with r := u x } (yy x) W1 a1) (μ x0) ⟨x0, rfl, h0, hy ▸ hs.le rfl fun E hs => ?_⟩ ?_
  · have := le_r (n := st.n) (G := st.G) (nx := st.nx) (df := st.df) e0 rfl E W a (by rw [← hr]; exact hs)
    exact this
  · rintro m a1 W1 ⟨x, rfl, hI, hs1⟩
    refine wpIn_mono (round x hI W1 a1 hs1) ?_
    rintro e a' W' ⟨st', y', h1, h2⟩
    cases e with
    | normal =>
      obtain ⟨x', h3, h4, rfl, h5, h6, h7⟩ := h2
      exact ⟨μ x', h3, x', rfl, h4, h1.le h7.n.2.symm fun E hs => fits_sim hr h7 h5 h6 hs⟩
    | _ => exact ⟨st', y', h1, h2⟩

/-- The abstract state of a stretch of plain code. -/
def segSt (st : St) (facts : List (Value × C)) : St := { st with G := factG facts, nx := facts.length }
def segE (L : Nat → Nat) (n : Nat) (W : World) : Env := ⟨W.heap.size, L, fun k => if k < n then some (0, 0, undef) else none, n, 0⟩
theorem seg_start {L : Nat → Nat} {W : World} {a : Act} {facts : List (Value × C)} (hs : Sim (itE L) W st a) (hf : ∀ p ∈ facts, ∀ E : Env, (∀ b, L b ≤ E.L b) → R E W p.2 p.1) : Sim (segE L facts.length W) W (segSt st facts) a := by
  have hT : ∀ n t b, (segE L facts.length W).T n = some t → blk t.2.2 = some b → False := fun n t b ht hb => by
    simp only [segE] at ht
    split at ht
    · simp only [Option.some.injEq] at ht; subst ht; simp [blk, undef] at hb
    · cases ht
  refine ⟨DefN.imp (E := itE L) (E' := segE L facts.length W) rfl (fun n t b ht hb => (hT n t b ht hb).elim) hs.d, hs.sz, fun i v hv => (hs.t i v hv).bare (E := itE L) (E' := segE L facts.length W) rfl (fun _ => Nat.le_refl _) (fun _ _ _ => rfl), ⟨rfl, fun n o ho => ?_, fun n t ht => ?_, fun n ver wv val b ht hb => (hT n _ b ht hb).elim, fun n m t t' b ht _ _ hb => (hT n t b ht hb).elim, fun b hb => hs.g.fresh b hb, Nat.le_refl _⟩⟩
  · simp only [segSt, factG, Option.map_eq_some_iff] at ho
    obtain ⟨p, hp, rfl⟩ := ho
    refine ⟨?_, hf p (List.mem_of_getElem? hp) _ (fun _ => Nat.le_refl _)⟩
    simp only [segE]
    rw [if_pos (List.getElem?_eq_some_iff.1 hp).1]
  · simp only [segE] at ht
    split at ht
    · assumption
    · cases ht
theorem seg_end {L : Nat → Nat} {W W' : World} {a' : Act} {n : Nat} {E' : Env} {st' : St} (hfr : ∀ b, W.heap.size ≤ b → L b = 0) (hev : Ev (segE L n W) W E' W') (hs : Sim E' W' st' a') : Sim (itE L) W' (exSt st') a' ∧ KeepL (itE L) W W' ∧ W.grownBy W' none := by
  have hb := hev.below
  refine ⟨⟨DefN.imp (E := E') (E' := itE L) (hev.x.F).symm (fun n t b ht _ => (by cases ht)) hs.d, hs.sz, fun i v hv => ?_, ⟨rfl, fun n o ho => (by cases ho), fun n t ht => (by cases ht), fun n ver wv val b ht => (by cases ht), fun n m t t' b ht => (by cases ht), fun b h => hfr b (Nat.le_trans hb.size h), Nat.zero_le _⟩⟩, ⟨hb.size, fun b i hi => hev.cell b i hi⟩, ⟨hb.os, hb.tape, hb.output, hb.size, fun k hk _ => hb.block k hk⟩⟩
  simp only [exSt]
  rw [getA_ex]
  exact (hs.t i v hv).ex
theorem KeepL.trans {E : Env} {A B C : World} (h : KeepL E A B) (k : KeepL E B C) : KeepL E A C := ⟨Nat.le_trans h.1 k.1, fun b i hi => (k.2 b i hi).trans (h.2 b i hi)⟩

variable {zs : List β}
/-- A state behind plain code. -/
theorem IterS.back (ok : I.Ok P) {W W' : World} {a a' : Act} {facts : List (Value × C)} {E' : Env} {st' : St} (h : IterS I st (false, zs) W a) (hev : Ev (segE I.L facts.length W) W E' W') (hs : Sim E' W' st' a') (hdf : st'.df = 0) : IterS I (exSt st') (false, zs) W' a' := by
  obtain ⟨_, _, hk, pre, h1, h2⟩ := h
  obtain ⟨q1, q2, q3⟩ := seg_end (fun b hb => ok.fr b (Nat.le_trans hk.1 hb)) hev hs
  exact ⟨hdf, q1, hk.trans q2, pre, h1, ok.aJ pre W W' none h2 q3 (fun r e => by cases e)⟩
theorem IterS.start {W : World} {a : Act} {facts : List (Value × C)} (h : IterS I st (false, zs) W a) (hf : ∀ p ∈ facts, Known I.L I.Ws p.1 p.2) : Sim (segE I.L facts.length W) W (segSt st facts) a :=
  seg_start h.2.1 fun p hp E hL => hf p hp E W hL h.2.2.1.2
/-- Plain code. -/
theorem iw_seg (ok : I.Ok P) {c : Code} (facts : List (Value × C)) (hf : ∀ p ∈ facts, Known I.L I.Ws p.1 p.2) (h : AW none P c (fun e st' => st'.df = 0 ∧ Q e (exSt st') (false, zs)) (segSt st facts)) : IW P I c Q st (false, zs) := by
  intro W a hs
  refine cwp_mono ?_ (h _ W a (hs.start hf))
  rintro e a' W' ⟨st', E', h1, h2, h3⟩
  exact ⟨_, _, hs.back ok h1 h2 h3.1, h3.2⟩
/-- Two pieces of it. -/
theorem iw_seg2 (ok : I.Ok P) {x x2 z : Code} (facts : List (Value × C)) (hf : ∀ p ∈ facts, Known I.L I.Ws p.1 p.2)
    (h : AW none P x (AThen (AW none P x2 (AThen (fun st' => st'.df = 0 ∧ IW P I z Q (exSt st') (false, zs)) fun _ _ => False)) fun _ _ => False) (segSt st facts)) : IW P I (.seq x (.seq x2 z)) Q st (false, zs) := by
  intro W a hs
  refine wpIn_seq (cwp_mono ?_ (h _ W a (hs.start hf)))
  rintro e a1 W1 ⟨st1, E1, h1, h2, h3⟩
  cases e with
  | normal =>
    refine wpIn_seq (cwp_mono ?_ (h3 E1 W1 a1 h2))
    rintro e a2 W2 ⟨st2, E2, q1, q2, q3⟩
    cases e with
    | normal => exact q3.2 W2 a2 (hs.back ok (h1.trans q1) q2 q3.1)
    | _ => exact q3.elim
  | _ => exact h3.elim
/-- No more is asked for: plain code without facts. -/
theorem iw_stop (ok : I.Ok P) {c : Code} (h : AW none P c (fun e st' => st'.df = 0 ∧ Q e (exSt st') (true, zs)) (segSt st [])) : IW P I c Q st (true, zs) := by
  intro W a hs
  obtain ⟨_, h1, pre, h2, h3⟩ := hs
  refine cwp_mono ?_ (h _ W a (seg_start (facts := []) h1 (fun p hp => by cases hp)))
  rintro e a' W' ⟨st', E', q1, q2, q3⟩
  obtain ⟨r1, r2, r3⟩ := seg_end (fun _ _ => rfl) q1 q2
  exact ⟨exSt st', (true, zs), ⟨q3.1, r1, pre, h2, ok.aJx pre W W' none h3 r3 (fun r e => by cases e)⟩, q3.2⟩

theorem iw_region {id : Nat} {l : List Oper} (h : IOps P I l.toArray (Q .normal) l st y) : IW P I (.region id l.toArray false) Q st y := fun W a hs =>
  wpIn_region_lit (h W a hs _ fun a' W' st' y' h1 h2 => ⟨st', y', h1, h2⟩)
variable {ops : Array Oper} {K : St → Bool × List β → Prop} {rest : List Oper} {o : Oper}
theorem iops_nil (h : K st y) : IOps P I ops K [] st y := fun W a hs _ hq => wpListIn_nil (hq a W st y hs h)
theorem IterS.put {W : World} {a : Act} (h : IterS I st y W a) (d : Option Tmp) {c : C} {v : Value} (hr : ∀ E, Sim E W st a → R E W c v) : IterS I (st.put d c) y W (a.put d v) := by
  obtain ⟨b, zs⟩ := y
  cases b with
  | false => exact ⟨by cases d <;> exact h.1, h.2.1.put d (hr _ h.2.1), h.2.2⟩
  | true => exact ⟨by cases d <;> exact h.1, h.2.1.put d (hr _ h.2.1), h.2.2⟩
/-- A value that hangs on the slots alone. -/
def VStep (P : Program) (o : Oper) (st : St) (c : C) : Prop := ∀ (W : World) (a : Act), ∃ v, (∀ E, Sim E W st a → R E W c v ∧ ∀ w', (execOp a.eval o).run P w' = .ok (.value v) w')
theorem iops_n {c : C} (hg : guardC ops st o = some true) (hq : NStep P o st c) (h : IOps P I ops K rest (st.put o.dst c) y) : IOps P I ops K (o :: rest) st y := by
  intro W a hs Q hQ
  obtain ⟨L, hsim⟩ := hs.simE
  refine wpListIn_step fun Kr hK => ?_
  rw [if_pos (guardC_spec hg hsim)]
  obtain ⟨v, h1, h2⟩ := hq _ W a hsim
  refine oper_fen (guardC_o hg).2 ?_
  unfold Oper.wp
  rw [h2 W]
  refine hK _ _ (h W _ (hs.put o.dst fun E hE => ?_) Q hQ)
  obtain ⟨v', h3, h4⟩ := hq _ W a hE
  have := (h2 W).symm.trans (h4 W)
  simp only [Result.ok.injEq, Next.value.injEq, and_true] at this
  exact this ▸ h3
theorem roundIn_n {n m l : Nat} {P : Program} {f : FuncId} {tmps : Array Value} {assign body : Code} {w : World} {R : Ending → World → Prop} (h : RoundIn (fen none) n P l f tmps assign body w R) : RoundIn (fen none) m P l f tmps assign body w R :=
  ⟨h.1, fun c cs _ => h.2 c cs (fun _ hd => by cases hd)⟩
/-- A call of yield. -/
theorem iops_yield (ok : I.Ok P) {fv : Operand} {args : List Operand} {ats : Array TypeId} {cs : List C} {x : β} (hx : x ∈ I.xs) (hg : guardC ops st o = some true) (ho : o.op = .call { callee := .value fv, args := args.toArray, argTypes := ats }) (hf : evC st fv = .v (.func (.yield I.l) #[] #[])) (has : args.map (evC st) = cs)
    (hcs : ∀ E W vs, Rs E W cs vs → vs = I.encv x) (hlen : zs.length < I.xs.length)
    (h1 : IOps P I ops K rest (st.put o.dst (.v (.bool true))) (false, zs ++ [x])) (h2 : IOps P I ops K rest (exSt (st.put o.dst (.v (.bool false)))) (true, zs ++ [x])) : IOps P I ops K (o :: rest) st (false, zs) := by
  intro W a hs Q hQ
  have hs0 := hs
  obtain ⟨hdf, hsim, hk, pre, hp, hj⟩ := hs
  have hdef : a.defers = [] := List.eq_nil_of_length_eq_zero (hsim.d.2.trans hdf)
  refine wpListIn_step fun Kr hK => ?_
  rw [if_pos (guardC_spec hg hsim)]
  have hfv := (hf ▸ hsim.ev fv).v_inv
  subst has
  have hra : Rs (itE I.L) W (args.map (evC st)) (args.map a.eval) := by
    refine ⟨by simp, fun j c v h1 h2 => ?_⟩
    rw [List.getElem?_map] at h1 h2
    cases hx : args[j]? with
    | none => rw [hx] at h1; cases h1
    | some x =>
      rw [hx] at h1 h2
      simp only [Option.map_some, Option.some.injEq] at h1 h2
      subst h1; subst h2
      exact hsim.ev x
  have hargs := hcs _ _ _ hra
  obtain ⟨fn, tmps, assign, body, hy, hR⟩ := ok.hY pre ⟨x, hx⟩ W hj (by have hl := congrArg List.length hp; rw [List.length_map] at hl; dsimp only at hl; omega)
  refine ⟨fun _ _ => trivial, ?_⟩
  rw [Oper.semAt_eq _ _ _ (guardC_o hg).2]
  have hrun : (execOp a.eval o).run P W = .ok (.round I.l fn tmps assign body) W := by
    rw [show (I.encv (⟨x, hx⟩ : { x // x ∈ I.xs }).1).toArray = (args.map a.eval).toArray by rw [hargs]] at hy
    simp only [execOp, ho, resolve, hfv]
    simp [Deferred.ofValue, invoke]
    simpa using hy
  rw [hrun]
  refine ⟨fun e => (by cases e), roundIn_n (hR.mono ?_)⟩
  have hmap : (pre ++ [(⟨x, hx⟩ : { x // x ∈ I.xs })]).map Subtype.val = zs ++ [x] := by rw [List.map_append, hp]; rfl
  rintro e W' (⟨rfl, h3, h4⟩ | ⟨rfl, h3⟩)
  · refine hK _ _ (h1 W' _ ?_ Q hQ)
    have hs' : Sim (itE I.L) W' st a := by
      refine ⟨⟨?_, hsim.d.2⟩, hsim.sz, fun i v hv => (hsim.t i v hv).bare rfl (fun _ => Nat.le_refl _) h4.2, ⟨hsim.g.nx, fun n o ho => ?_, hsim.g.lt, fun n ver wv val b ht => (by cases ht), hsim.g.ap, fun b hb => hsim.g.fresh b (Nat.le_trans h4.1 hb), Nat.zero_le _⟩⟩
      · rw [hdef]; exact Nat.zero_le _
      · have := hsim.g.obj n o ho
        cases o with
        | box => obtain ⟨_, _, _, e, _⟩ := this; cases e
        | arr => obtain ⟨_, _, e, _⟩ := this; cases e
        | tip => obtain ⟨_, _, e, _⟩ := this; cases e
        | fact => cases this.1
        | raw => obtain ⟨_, e, _⟩ := this; cases e
        | map => obtain ⟨_, _, _, e, _⟩ := this; cases e
    refine ⟨by cases o.dst <;> exact hdf, hs'.put _ (.v rfl), hk.trans h4, _, hmap, h3⟩
  · refine hK _ _ (h2 W' _ ?_ Q hQ)
    have hput := hsim.put o.dst (c := .v (.bool false)) (v := .bool false) (.v rfl)
    refine ⟨by cases o.dst <;> exact hdf, ⟨⟨?_, ?_⟩, hput.sz, fun i v hv => ?_, ⟨rfl, fun n o ho => (by cases ho), fun n t ht => (by cases ht), fun n ver wv val b ht => (by cases ht), fun n m t t' b ht => (by cases ht), fun _ _ => rfl, Nat.zero_le _⟩⟩, _, hmap, h3⟩
    · show DefOk _ W' (a.put o.dst (.bool false)).defers
      have : (a.put o.dst (.bool false)).defers = [] := by cases o.dst <;> exact hdef
      rw [this]; exact Nat.zero_le _
    · exact hput.d.2
    · simp only [exSt]
      rw [getA_ex]
      exact (hput.t i v hv).ex
end
end Go.AB

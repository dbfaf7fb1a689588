/-
 Iterators that turn a map of their own: the caller's law; pieces of their code.
-/
import Derived.Test.YtejhjijbgceklaaAbRangeN
import Derived.Test.YtejhjijbgceklaaEngB
namespace Go.AB
open Go Go.RowKit
open Go.AB.Enc (cells)
/-- The contract of an iterator's value that turns the map M. -/
def IterM (P : Program) (gf : Nat) (caps : List C) (M : Nat) (o : GObj) {β : Type} (xs : List β) (encv : β → List Value) : Prop :=
 ∀ (E : Env) (w : World) (lb : List Value) (G : Nat → Option GObj) (nx : Nat), Rs E w caps lb → SimG E w G nx → G M = some o → ∃ r, (∃ t, E.T M = some t ∧ blk t.2.2 = some r) ∧ (∃ ob : Obj, w.heap[r]? = some ob ∧ ob.isCells = false) ∧ IterG P gf (some r) E w lb xs encv
theorem aw_rangeFuncM {P : Program} {β Y : Type} {g : Operand} {ps : Array Tmp} {assign body : Code} {Q : Exit → St → Prop} {st : St} {gf : Nat} [Fun P gf] {caps : List C} {xs : List β} {encv : β → List Value} (M : Nat) {o : GObj} (cl : β → List C) (pl : List Tmp)
  (J : List β → Nat → Option GObj) (N : List β → Nat) (IxA : Code → List β → Y → Prop) (Gx : Y → Nat → Option GObj) (Nx : Y → Nat) (u : β → List (Nat × C)) (it : IterM P gf caps M o xs encv) (hM : st.G M = some o) (hJM : J [] M = none)
  (hg : evC st g = .fn (.func gf) caps) (hps : ps = pl.toArray) (hlen : ∀ x, (encv x).length = pl.length) (hcl : ∀ x ∈ xs, ∀ E W, Rs E W (cl x) (encv x))
  (hu : ∀ pre x, putL pl (cl x) { st with G := J pre, nx := N pre, df := 0 } = { st with r := u x, G := J pre, nx := N pre, df := 0 })
  (h0 : ∀ n o, J [] n = some o → st.G n = some o) (n0 : N [] = st.nx) (hN : ∀ zs, st.nx ≤ N zs) (hNx : ∀ c zs y, IxA c zs y → st.nx ≤ Nx y) (hJ : ∀ zs, NewOk st (J zs) (N zs)) (hGx : ∀ c zs y, IxA c zs y → NewOk st (Gx y) (Nx y))
  (round : ∀ l pre x, x ∈ xs → pre.length < xs.length → (∀ y ∈ pre, y ∈ xs) → AW (some l) P assign (AThen (AW (some l) P body (RPostN J N IxA Gx Nx (pre ++ [x]))) fun _ _ => False) { st with r := u x, G := J pre, nx := N pre, df := 0 })
  (stop : ∀ c pre y, pre <+: xs → IxA c pre y → AW none P c Q { st with G := Gx y, nx := Nx y, df := st.df + 1 })
  (done : Q .normal { st with G := J xs, nx := N xs, df := st.df + 1 }) : AW none P (.rangeFunc g ps assign body) Q st := fun E w a hs => by
 obtain ⟨vs, hgv, hvs⟩ := (hg ▸ hs.ev g).fn_inv
 obtain ⟨r, h1, h2, h3⟩ := it E w vs st.G st.nx hvs hs.g hM
 exact rangeFunc_g (some r) M cl pl J N IxA Gx Nx u hs h3 (fun r' e => by cases e; exact ⟨h1, h2, hJM⟩) hgv hps hlen hcl hu h0 n0 hN hNx hJ hGx round stop done
/-! ### Steps by hand -/
theorem wpl_value {ρ : Option Nat} {P : Program} {ops : Array Oper} {Q : Exit → Act → World → Prop} {o : Oper} {rest : List Oper} {a : Act} {w w' : World} {v : Value} (hg : o.guard = none) (hd : ∀ c, o.op ≠ .defer c) (hrun : (execOp a.eval o).run P w = .ok (.value v) w') (h : wpListIn (fen ρ) 1 P ops Q rest (a.put o.dst v) w') : wpListIn (fen ρ) 1 P ops Q (o :: rest) a w :=
 wpListIn_plain hg fun K hK => oper_fen (Q := Q) hd (by unfold Oper.wp; rw [hrun]; exact hK _ _ h)
theorem wpl_call {ρ : Option Nat} {P : Program} {ops : Array Oper} {Q : Exit → Act → World → Prop} {o : Oper} {rest : List Oper} {a : Act} {w w' : World} {f : FuncId} {args : Array Value} {v : Value} (hg : o.guard = none) (hd : ∀ c, o.op ≠ .defer c) (hrun : (execOp a.eval o).run P w = .ok (.enter f args) w)
  (hc : Calls P f args w fun e w2 => e = .returned v ∧ w2 = w') (h : wpListIn (fen ρ) 1 P ops Q rest (a.put o.dst v) w') : wpListIn (fen ρ) 1 P ops Q (o :: rest) a w :=
 wpListIn_plain hg fun K hK => oper_fen (Q := Q) hd (by
  unfold Oper.wp
  rw [hrun]
  refine hc.mono ?_
  rintro e w2 ⟨rfl, rfl⟩
  exact hK _ _ h)
theorem wpl_round {ρ : Option Nat} {P : Program} {ops : Array Oper} {Q : Exit → Act → World → Prop} {o : Oper} {rest : List Oper} {a : Act} {w : World} {l : Nat} {f : FuncId} {tmps : Array Value} {assign body : Code} {R : Ending → World → Prop} (hg : o.guard = none) (hd : ∀ c, o.op ≠ .defer c) (hrun : (execOp a.eval o).run P w = .ok (.round l f tmps assign body) w)
  (hc : RoundIn (fen none) 1 P l f tmps assign body w R) (h : ∀ e w', R e w' → ∃ v, e = .returned v ∧ wpListIn (fen ρ) 1 P ops Q rest (a.put o.dst v) w') : wpListIn (fen ρ) 1 P ops Q (o :: rest) a w :=
 wpListIn_plain hg fun K hK => by
  refine ⟨fun _ _ => trivial, ?_⟩
  rw [Oper.semAt_eq _ _ _ hd, hrun]
  refine ⟨fun e => (by cases e), ?_⟩
  have h2 : RoundIn (fen none) 0 P l f tmps assign body w R := roundIn_n hc
  refine RoundIn.mono (F := fen ρ) h2 ?_
  intro e w' hr
  obtain ⟨v, rfl, h3⟩ := h e w' hr
  exact hK _ _ h3
/-! ### A map, and nothing else -/
def MapIs (P : Program) (k : TypeId) {α : Type} [KeyV α] (r : Nat) (m : α → Option C) (W : World) : Prop := ∃ es clock, W.heap[r]? = some (.map es clock) ∧ es.all (·.born < clock) = true ∧ MapOk (itE fun _ => 0) W (okK P k α) (mapV m) es.toList clock
def ExactM {α : Type} (m : α → Option C) : Prop := ∀ s c, m s = some c → ∃ v, c = .v v
def mapE (L : Nat → Nat) (r k : Nat) : Env := ⟨0, L, fun n => if n = 0 then some (0, 0, .map (some r)) else if n ≤ k then some (0, 0, undef) else none, k + 1, 0⟩
def mapGO (o : GObj) (facts : List (Value × C)) : Nat → Option GObj
 | 0 => some o
 | n + 1 => (facts[n]?).map fun p => .fact p.1 p.2
theorem mapE_blk {L : Nat → Nat} {r k n : Nat} {t : Nat × Nat × Value} {b : Nat} (h : (mapE L r k).T n = some t) (hb : blk t.2.2 = some b) : n = 0 ∧ b = r := by
 simp only [mapE] at h
 split at h
 ·rename_i e; cases h; cases hb; exact ⟨e, rfl⟩
 ·split at h
  ·cases h; cases hb
  ·cases h
theorem mapE_elem {L : Nat → Nat} {r n bb oo : Nat} {W : World} (h1 : oo + 1 ≤ L bb) (h2 : W.cell? ⟨bb, oo, none⟩ = some (.map (some r))) : R (mapE L r n) W (.elem [.map 0]) (.pointer (some ⟨bb, oo, none⟩)) := by
 refine .elem (us := fun _ => .map (some r)) (by simp) (by simp [C.one]) (.inr ⟨bb, oo, rfl, by simpa [mapE] using h1, fun j hj => ?_⟩) fun j c hc => ?_
 ·obtain rfl : j = 0 := by simp at hj; omega
  exact h2
 ·cases j with
  | zero =>
   simp only [List.getElem?_cons_zero, Option.some.injEq] at hc
   subst hc
   refine .map (Nat.succ_pos _) fun ver wv val ht _ => ?_
   simp only [mapE, if_true] at ht
   cases ht; rfl
  | succ j => simp at hc
section
variable {P : Program} {k : TypeId} {α : Type} [KeyV α] {r : Nat} {m : α → Option C} {L : Nat → Nat} {W W' : World} {st : St} {a : Act}
theorem map_seg {facts : List (Value × C)} (hfr : ∀ b, W.heap.size ≤ b → L b = 0) (hs : Sim (itE L) W st a) (hdf : st.df = 0) (hm : MapIs P k r m W) (hf : ∀ p ∈ facts, R (mapE L r facts.length) W p.2 p.1) : Sim (mapE L r facts.length) W { st with G := mapGO (gmap P k 0 m) facts, nx := facts.length + 1 } a := by
 obtain ⟨es, clock, h1, h2, h3⟩ := hm
 have hdef : a.defers = [] := List.eq_nil_of_length_eq_zero (hs.d.2.trans hdf)
 refine ⟨⟨?_, hs.d.2⟩, hs.sz, fun i v hv => (hs.t i v hv).bare (E := itE L) (E' := mapE L r facts.length) rfl (fun _ => Nat.le_refl _) (fun _ _ _ => rfl), ⟨rfl, fun n o ho => ?_, fun n t ht => ?_, fun n ver wv val b ht hb => ?_, fun n m t t' b ht ht' hne hb hb' => ?_, fun b hb => hfr b hb, Nat.zero_le _⟩⟩
 ·rw [hdef]; exact Nat.zero_le _
 ·cases n with
  | zero =>
   cases ho
   exact ⟨r, es, clock, rfl, h1, h3.imp fun x c v _ hr => hr.bare rfl (fun _ => Nat.zero_le _) (fun _ _ h => absurd h (Nat.not_lt_zero _)), h2⟩
  | succ n =>
   simp only [mapGO, Option.map_eq_some_iff] at ho
   obtain ⟨p, hp, rfl⟩ := ho
   have hlt := (List.getElem?_eq_some_iff.1 hp).1
   refine ⟨?_, hf p (List.mem_of_getElem? hp)⟩
   simp only [mapE]
   rw [if_neg (by omega), if_pos (by omega)]
 ·simp only [mapE] at ht ⊢
  split at ht
  ·omega
  ·split at ht
   ·omega
   ·cases ht
 ·obtain ⟨_, e⟩ := mapE_blk ht hb
  subst e
  exact ⟨Nat.zero_le _, (Array.getElem?_eq_some_iff.1 h1).1⟩
 ·exact hne ((mapE_blk ht hb).1.trans (mapE_blk ht' hb').1.symm)
theorem map_seg_end {n wv : Nat} {E' : Env} {st' : St} {a' : Act} {m' : α → Option C} (hfr : ∀ b, W.heap.size ≤ b → L b = 0) (hr : ∃ o : Obj, W.heap[r]? = some o ∧ o.isCells = false) (hev : Ev (mapE L r n) W E' W') (hs : Sim E' W' st' a') (hdf : st'.df = 0) (hG : st'.G 0 = some (gmap P k wv m')) (hex : ExactM m') :
  Sim (itE L) W' (exSt st') a' ∧ KeepL (itE L) W W' ∧ W.grownBy W' (some r) ∧ MapIs P k r m' W' := by
 have hb := hev.below
 have hdef : a'.defers = [] := List.eq_nil_of_length_eq_zero (hs.d.2.trans hdf)
 obtain ⟨r', es, clock, q1, q2, q3, q4⟩ := hs.g.obj 0 _ hG
 obtain ⟨ver, wv0, val, p1, p2, p3⟩ := hev.T 0 (Nat.succ_pos _) _ _ _ q1
 have e0 : (mapE L r n).T 0 = some (0, 0, .map (some r)) := rfl
 rw [e0] at p1
 cases p1
 have hval := (p3 rfl).1
 simp only [Value.map.injEq, Option.some.injEq] at hval
 subst hval
 refine ⟨⟨⟨?_, hs.d.2⟩, hs.sz, fun i v hv => ?_, ⟨rfl, fun n o ho => (by cases ho), fun n t ht => (by cases ht), fun n ver wv val b ht => (by cases ht), fun n m t t' b ht => (by cases ht), fun b h => hfr b (Nat.le_trans hb.size h), Nat.zero_le _⟩⟩, ⟨hb.size, fun b i hi => hev.cell b i hi⟩, ⟨hb.os, hb.tape, hb.output, hb.size, fun b hlt hne => ?_⟩, es, clock, q2, q4, q3.ok, q3.pw, q3.pb, fun e he => ?_, q3.has⟩
 ·rw [hdef]; exact Nat.zero_le _
 ·simp only [exSt]
  rw [getA_ex]
  exact (hs.t i v hv).ex
 ·have h1 : W.heap[b]? = some W.heap[b] := Array.getElem?_eq_getElem hlt
  rw [h1]
  exact hev.x.oth b _ h1 fun n t ht hb' => hne (by rw [(mapE_blk ht hb').2])
 ·obtain ⟨c, h1, h2⟩ := q3.val e he
  refine ⟨c, h1, ?_⟩
  obtain ⟨x, l, hx, _⟩ := q3.ok e he
  rw [hx, mapV_kv] at h1
  obtain ⟨v, rfl⟩ := hex x c h1
  exact h2.ex (E' := itE fun _ => 0) (W' := W')
end
end Go.AB

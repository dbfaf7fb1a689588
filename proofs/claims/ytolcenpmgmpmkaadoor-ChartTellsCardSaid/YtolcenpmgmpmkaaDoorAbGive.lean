/-
  An iterator's contract out of its body's walk.
-/
import Derived.Test.YtolcenpmgmpmkaaDoorAbYield
namespace Go.AB
open Go Go.RowKit

theorem facts_nil {L : Nat → Nat} {Ws : World} : ∀ p ∈ ([] : List (Value × C)), Known L Ws p.1 p.2 := fun p hp => by cases hp
theorem facts_cons {L : Nat → Nat} {Ws : World} {v : Value} {c : C} {l : List (Value × C)} (h : Known L Ws v c) (k : ∀ p ∈ l, Known L Ws p.1 p.2) : ∀ p ∈ (v, c) :: l, Known L Ws p.1 p.2 := fun p hp => by
  rcases List.mem_cons.1 hp with rfl | hp
  · exact h
  · exact k p hp

/-- What an iterator's body must achieve. -/
def IDone {β : Type} (xs : List β) : Exit → St → Bool × List β → Prop
  | .normal, _, y | .ret, _, y => (y.1 = false → y.2 = xs) ∧ (y.1 = true → y.2 <+: xs)
  | _, _, _ => False
theorem idone_normal {β : Type} {xs : List β} {st : St} {zs : List β} (h : zs = xs) : IDone xs .normal st (false, zs) := ⟨fun _ => h, fun e => by cases e⟩
theorem idone_ret {β : Type} {xs : List β} {st : St} {zs : List β} (h : zs <+: xs) : IDone xs .ret st (true, zs) := ⟨fun e => (by cases e), fun _ => h⟩

theorem iterAt_of_body {β : Type} {P : Program} {gf : Nat} {fn : Func} {c : Code} {caps : List C} {xs : List β} {encv : β → List Value} {E : Env} {w : World} {lb : List Value} (hrs : Rs E w caps lb) (hfr : ∀ b, w.heap.size ≤ b → E.L b = 0) (hf : P.funcs[gf]? = some fn) (hb : fn.body = some c) (hr : fn.results = #[]) (hone : ∀ c ∈ caps, C.one c = true)
    (h : ∀ (W : World) (l : Nat) (J Jx : List { x // x ∈ xs } → World → Prop), Rs E W caps lb → (∀ b i, i < E.L b → W.cell? ⟨b, i, none⟩ = w.cell? ⟨b, i, none⟩) → ItC.Ok P ⟨xs, encv, E.L, W, l, J, Jx⟩ →
      IW P ⟨xs, encv, E.L, W, l, J, Jx⟩ c (IDone xs) { n := lb.length + 1 + (fn.ntmps - (lb.length + 1)), l := .v (.func (.yield l) #[] #[]) :: lb.map .v, r := [], G := noG, nx := 0 } (false, [])) : IterAt P gf E w lb xs encv := by
  intro l J Jx W hbel aJ aJx hY hJ
  have hcell : ∀ b i, i < E.L b → W.cell? ⟨b, i, none⟩ = w.cell? ⟨b, i, none⟩ := fun b i hi => by
    have hlt : b < w.heap.size := Nat.lt_of_not_le fun hle => by have := hfr b hle; omega
    exact World.cell?_of_block (w := w) (hbel.block b hlt)
  have hrs' : Rs E W caps lb := hrs.same (E := E) (E' := E) (fun _ => Nat.le_refl _) hcell rfl rfl
  have hsz := hbel.size
  have ok : ItC.Ok P ⟨xs, encv, E.L, W, l, J, Jx⟩ := ⟨fun b hb => hfr b (Nat.le_trans hsz hb), aJ, aJx, hY⟩
  have hargs : Rs (itE E.L) W (.v (.func (.yield l) #[] #[]) :: lb.map .v) (.func (.yield l) #[] #[] :: lb) := by
    refine ⟨by simp, fun j c v hc hv => ?_⟩
    cases j with
    | zero =>
      simp only [List.getElem?_cons_zero, Option.some.injEq] at hc hv
      subst hc; subst hv
      exact .v rfl
    | succ j =>
      simp only [List.getElem?_cons_succ] at hc hv
      rw [List.getElem?_map, hv] at hc
      simp only [Option.map_some, Option.some.injEq] at hc
      subst hc
      have hlt : j < caps.length := by rw [← hrs'.1]; exact (List.getElem?_eq_some_iff.1 hv).1
      have h1 := hrs'.2 j _ v (List.getElem?_eq_getElem hlt) hv
      have h2 := hone _ (List.getElem_mem hlt)
      refine .v ?_
      generalize caps[j] = cc at h1 h2
      cases h1 with
      | v h => exact h
      | list => rfl
      | elem => rfl
      | box => rfl
      | arr => rfl
      | own => rfl
      | fn => rfl
      | map => rfl
      | agg => cases h2
      | tup => cases h2
      | any => cases h2
  have hg : SimG (itE E.L) W noG 0 := ⟨rfl, fun n o ho => (by cases ho), fun n t ht => (by cases ht), fun n ver wv val b ht => (by cases ht), fun n m t t' b ht => (by cases ht), fun b hb => hfr b (Nat.le_trans hsz hb), Nat.zero_le _⟩
  have hsim := Sim.start hargs hg (Nat.zero_le _) fn.ntmps
  have e1 : (#[.func (.yield l) #[] #[]] ++ lb.toArray : Array Value) = (.func (.yield l) #[] #[] :: lb).toArray := by simp
  rw [e1]
  have hw := h W l J Jx hrs' hcell ok W _ ⟨rfl, by simpa using hsim, ⟨Nat.le_refl _, fun _ _ _ => rfl⟩, [], rfl, hJ⟩
  refine callsIn_of_wp_marks hf hb trivial (wpIn_mono (cwp_n (m := 2) hw) ?_)
  rintro e a' w' ⟨st', ⟨b, zs⟩, hI, hQ⟩
  have fin : (b = false → zs = xs) ∧ (b = true → zs <+: xs) → bodyPostM (fen none) 2 P fn (fun e W' => (∃ v, e = .returned v) ∧ ((∃ zs, zs.map Subtype.val = xs ∧ J zs W') ∨ (∃ pre, pre.map Subtype.val <+: xs ∧ Jx pre W'))) .ret a' w' := by
    rintro ⟨q1, q2⟩
    show LeavesInM (fen none) 2 P fn a'.tmps _ a'.defers .returning w'
    cases b with
    | false =>
      obtain ⟨hdf, hs, hk, pre, hp, hj⟩ := hI
      have hd : a'.defers = [] := List.eq_nil_of_length_eq_zero (hs.d.2.trans hdf)
      rw [hd]
      exact ⟨_, results_none hr _ _ _, ⟨_, rfl⟩, .inl ⟨pre, hp.trans (q1 rfl), hj⟩⟩
    | true =>
      obtain ⟨hdf, hs, pre, hp, hj⟩ := hI
      have hd : a'.defers = [] := List.eq_nil_of_length_eq_zero (hs.d.2.trans hdf)
      rw [hd]
      exact ⟨_, results_none hr _ _ _, ⟨_, rfl⟩, .inr ⟨pre, by rw [hp]; exact q2 rfl, hj⟩⟩
  cases e with
  | normal => exact fin hQ
  | ret => exact fin hQ
  | _ => exact hQ.elim
theorem iterOk_of_body {β : Type} {P : Program} {gf : Nat} {fn : Func} {c : Code} {caps : List C} {xs : List β} {encv : β → List Value} (hf : P.funcs[gf]? = some fn) (hb : fn.body = some c) (hr : fn.results = #[]) (hone : ∀ c ∈ caps, C.one c = true)
    (h : ∀ (E : Env) (W : World) (lb : List Value) (l : Nat) (J Jx : List { x // x ∈ xs } → World → Prop), Rs E W caps lb → ItC.Ok P ⟨xs, encv, E.L, W, l, J, Jx⟩ →
      IW P ⟨xs, encv, E.L, W, l, J, Jx⟩ c (IDone xs) { n := lb.length + 1 + (fn.ntmps - (lb.length + 1)), l := .v (.func (.yield l) #[] #[]) :: lb.map .v, r := [], G := noG, nx := 0 } (false, [])) : IterOk P gf caps xs encv :=
  fun E _ lb hrs hfr => iterAt_of_body hrs hfr hf hb hr hone fun W l J Jx h1 _ ok => h E W lb l J Jx h1 ok
/-- .. what comes is chosen in the world of the call. -/
theorem iterX_of_body {β : Type} {P : Program} {gf : Nat} {fn : Func} {c : Code} {caps : List C} {X : List β → Prop} {encv : β → List Value} (hf : P.funcs[gf]? = some fn) (hb : fn.body = some c) (hr : fn.results = #[]) (hone : ∀ c ∈ caps, C.one c = true)
    (h : ∀ (E : Env) (w : World) (lb : List Value), Rs E w caps lb → ∃ xs, X xs ∧ ∀ (W : World) (l : Nat) (J Jx : List { x // x ∈ xs } → World → Prop), (∀ b i, i < E.L b → W.cell? ⟨b, i, none⟩ = w.cell? ⟨b, i, none⟩) → ItC.Ok P ⟨xs, encv, E.L, W, l, J, Jx⟩ →
      IW P ⟨xs, encv, E.L, W, l, J, Jx⟩ c (IDone xs) { n := lb.length + 1 + (fn.ntmps - (lb.length + 1)), l := .v (.func (.yield l) #[] #[]) :: lb.map .v, r := [], G := noG, nx := 0 } (false, [])) : IterX P gf caps X encv :=
  fun E w lb hrs hfr => let ⟨xs, hX, hk⟩ := h E w lb hrs; ⟨xs, hX, iterAt_of_body hrs hfr hf hb hr hone fun W l J Jx _ h2 ok => hk W l J Jx h2 ok⟩
theorem Known.later {L : Nat → Nat} {w W : World} {v : Value} {c : C} (h : Known L w v c) (hc : ∀ b i, i < L b → W.cell? ⟨b, i, none⟩ = w.cell? ⟨b, i, none⟩) : Known L W v c :=
  fun E W' hL hc' => h E W' hL fun b i hi => (hc' b i hi).trans (hc b i hi)
end Go.AB

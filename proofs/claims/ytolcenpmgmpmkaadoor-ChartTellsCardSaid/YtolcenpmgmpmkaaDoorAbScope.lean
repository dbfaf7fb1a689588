/-
  Scopes through which the run goes without a goto; loops whose rounds are counted; calls that give new named objects back.
-/
import Derived.Test.YtolcenpmgmpmkaaDoorAbMap
import Derived.LoopNIn
namespace Go.AB
open Go Go.RowKit
open Go.AB.Enc (cells)
theorem stepR_scope {P : Program} {b : Frame} {a : Act} {k : List Item} {cs : List Frame} {w : World} {c : Code} : step P (lone (b.atR a (.code (.scope c) :: k)) cs w) = .next (lone (b.atR a (.code c :: .inScope c :: k)) cs w) :=
  step_lone_go (by simp [stepG, stepG.exec, Frame.atR])
theorem stepR_inScope {P : Program} {b : Frame} {a : Act} {k : List Item} {cs : List Frame} {w : World} {c : Code} : step P (lone (b.atR a (.inScope c :: k)) cs w) = .next (lone (b.atR a k) cs w) :=
  step_lone_go (by simp [stepG, stepG.exec, Frame.atR])
def noGotoQ (Q : Exit → Act → World → Prop) : Exit → Act → World → Prop
  | .goto _, _, _ => False
  | e, a, w => Q e a w
theorem wpIn_scope {F : Fence} {n : Nat} {P : Program} {Q : Exit → Act → World → Prop} {a : Act} {w : World} {c : Code} (h : c.wpIn F n P (noGotoQ Q) a w) : (Code.scope c).wpIn F n P Q a w := by
  intro b k cs hro hb hr
  have h0 : (lone (b.atR a (.code (.scope c) :: k)) cs w).fenced P F := fenced_calm hb hr rfl
  obtain ⟨e, a₁, w₁, hq, harr⟩ := h b (.inScope c :: k) cs hro hb hr
  cases e with
  | normal => exact ⟨.normal, a₁, w₁, hq, .head h0 stepR_scope (StepsIn.trans harr (.one (fenced_calm hb hr rfl) stepR_inScope))⟩
  | exit id' =>
    have hx : exitTo id' (.inScope c :: k) = exitTo id' k := by simp [exitTo]
    exact ⟨.exit id', a₁, w₁, hq, fun k' hk => .head h0 stepR_scope (harr.1 k' (by rw [hx]; exact hk)),
      fun hr' hk => let ⟨k₁, h1, h2⟩ := harr.2 hr' (by rw [hx]; exact hk); ⟨k₁, h1, .head h0 stepR_scope h2⟩⟩
  | goto l => exact hq.elim
  | ret => exact ⟨_, a₁, w₁, hq, .of_steps (.one h0 stepR_scope) harr⟩
  | panic ch => exact ⟨_, a₁, w₁, hq, .of_steps (.one h0 stepR_scope) harr⟩
  | outgrown => exact ⟨_, a₁, w₁, hq, .of_steps (.one h0 stepR_scope) harr⟩
section
variable {ρ : Option Nat} {P : Program} {Q : Exit → St → Prop} {st : St}
def ANoGoto (Q : Exit → St → Prop) : Exit → St → Prop
  | .goto _, _ => False
  | e, st => Q e st
theorem aw_scope {c : Code} (h : AW ρ P c (ANoGoto Q) st) : AW ρ P (.scope c) Q st := by
  intro E w a hs
  refine wpIn_scope (cwp_mono ?_ (h E w a hs))
  rintro e a' w' ⟨st', E', h1, h2, h3⟩
  cases e with
  | goto l => exact h3
  | _ => exact ⟨st', E', h1, h2, h3⟩
/-- Round by round. -/
def ARounds (ρ : Option Nat) (P : Program) (c : Code) (Q : Exit → St → Prop) : Nat → St → Prop
  | 0, _ => False
  | m + 1, st => AW ρ P c (AThen (ARounds ρ P c Q m) Q) st
theorem aw_rounds {c : Code} (m : Nat) (h : ARounds ρ P c Q m st) : AW ρ P (.loop c) Q st := by
  intro E w a hs
  refine wpIn_loop_rounds m ?_
  have key : ∀ m st E1 w1 a1, Ev E w E1 w1 → Sim E1 w1 st a1 → ARounds ρ P c Q m st → Code.roundsIn (fen ρ) 1 P c (lift E w Q) m a1 w1 := by
    intro m
    induction m with
    | zero => intro st E1 w1 a1 _ _ h; exact h.elim
    | succ m ih =>
      intro st E1 w1 a1 hev hs1 h
      refine cwp_mono ?_ (h E1 w1 a1 hs1)
      rintro e a' w' ⟨st', E', h1, h2, h3⟩
      cases e with
      | normal => exact ih st' E' w' a' (hev.trans h1) h2 h3
      | _ => exact ⟨st', E', hev.trans h1, h2, h3⟩
  exact key m st E w a (Ev.refl E w) hs h
theorem arounds_succ {c : Code} {m : Nat} (h : ∀ K : St → Prop, (∀ st', ARounds ρ P c Q m st' → K st') → AW ρ P c (AThen K Q) st) : ARounds ρ P c Q (m + 1) st := h _ fun _ h => h
/-- A contract whose result has new named objects. -/
theorem ends_pc {fn : Func} {r : C} {K : C → (Nat → Option GObj) → Nat → Prop} (h1 : resC P fn st r) (h2 : K r st.G st.nx) : ∃ r, resC P fn st r ∧ K r st.G st.nx := ⟨r, h1, h2⟩
theorem resC_3 {fn : Func} {r1 r2 r3 : ResultVar} {c1 c2 c3 : C} (hf : fn.results = #[r1, r2, r3]) (h1 : RV P st r1 c1) (h2 : RV P st r2 c2) (h3 : RV P st r3 c3) : resC P fn st (.tup [c1, c2, c3]) := fun E w a hs => by
  obtain ⟨v1, e1, q1⟩ := h1 E w a hs
  obtain ⟨v2, e2, q2⟩ := h2 E w a hs
  obtain ⟨v3, e3, q3⟩ := h3 E w a hs
  refine ⟨.tuple #[v1, v2, v3], ?_, (Rs.cons q1 (Rs.cons q2 (Rs.cons q3 Rs.nil))).tup⟩
  rw [results_eq, hf]
  simp [e1, e2, e3, Result.andThen]
theorem resC_4 {fn : Func} {r1 r2 r3 r4 : ResultVar} {c1 c2 c3 c4 : C} (hf : fn.results = #[r1, r2, r3, r4]) (h1 : RV P st r1 c1) (h2 : RV P st r2 c2) (h3 : RV P st r3 c3) (h4 : RV P st r4 c4) : resC P fn st (.tup [c1, c2, c3, c4]) := fun E w a hs => by
  obtain ⟨v1, e1, q1⟩ := h1 E w a hs
  obtain ⟨v2, e2, q2⟩ := h2 E w a hs
  obtain ⟨v3, e3, q3⟩ := h3 E w a hs
  obtain ⟨v4, e4, q4⟩ := h4 E w a hs
  refine ⟨.tuple #[v1, v2, v3, v4], ?_, (Rs.cons q1 (Rs.cons q2 (Rs.cons q3 (Rs.cons q4 Rs.nil)))).tup⟩
  rw [results_eq, hf]
  simp [e1, e2, e3, e4, Result.andThen]
end
/-- A contract where a fact is known, out of the body's walk. -/
theorem pureF_of_body {F : GObj} {P : Program} {f : FuncId} {fn : Func} {c : Code} {args : List C} {r : C} (hf : P.funcs[f]? = some fn) (hb : fn.body = some c) (hl : ∀ m, r.low m)
    (h : ∀ (G : Nat → Option GObj) (nx : Nat), G 0 = some F → AW none P c (Ends P fn r G nx) { n := args.length + (fn.ntmps - args.length), l := args, r := [], G := G, nx := nx }) : PureF F P f args r :=
  fun G nx hF => pc_pure_of_body hf hb hl (h G nx hF)
end Go.AB

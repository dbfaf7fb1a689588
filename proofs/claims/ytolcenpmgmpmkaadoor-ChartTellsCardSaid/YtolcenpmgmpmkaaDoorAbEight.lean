/-
  Loops and cuts that drop names; variables that are laid for good; results; own slices.
-/
import Derived.Test.YtolcenpmgmpmkaaDoorAbSeven
import Derived.Laws.CopyOwn
namespace Go.AB
open Go Go.RowKit
open Go.AB.Enc (cells)
variable {ρ : Option Nat}

/-! ### Dropping names -/
theorem Sim.dropTo {E : Env} {w : World} {st st' : St} {a : Act} (h : Sim E w st a) (hn : st'.n = st.n) (hdf : st'.df = st.df) (hnx : st'.nx ≤ st.nx)
    (hl : ∀ i, i < st.n → getA st'.l st'.r i = .any ∨ (getA st'.l st'.r i = getA st.l st.r i ∧ (getA st'.l st'.r i).low st'.nx)) (hG : ∀ n o, st'.G n = some o → st.G n = some o ∧ n < st'.nx ∧ o.low st'.nx) : Sim (E.drop st'.nx) w st' a := by
  refine ⟨hdf ▸ DefN.sub (E := E) (E' := E.drop st'.nx) rfl (fun n t ht => by
    simp only [Env.drop] at ht
    split at ht
    · exact ht
    · cases ht) h.d, hn ▸ h.sz, fun i v hv => ?_, (h.g.weak fun n o ho => (hG n o ho).1).drop fun n o ho => (hG n o ho).2⟩
  have hi : i < st.n := by rw [← h.sz]; exact (Array.getElem?_eq_some_iff.1 hv).1
  rcases hl i hi with h1 | ⟨h1, h2⟩
  · rw [h1]; exact .any
  · have := h.t i v hv
    rw [← h1] at this
    exact this.drop h2

/-- What a slot's value may name is among the names. -/
theorem Sim.low {E : Env} {w : World} {st : St} {a : Act} (h : Sim E w st a) (i : Nat) (hi : i < st.n) : (getA st.l st.r i).low st.nx := by
  have hlt : i < a.tmps.size := by rw [h.sz]; exact hi
  have := (h.t i _ (Array.getElem?_eq_getElem hlt)).low
  rw [h.g.nx] at this
  exact this
theorem Sim.lowG {E : Env} {w : World} {st : St} {a : Act} (h : Sim E w st a) : ∀ n o, st.G n = some o → n < st.nx ∧ o.low st.nx := by
  intro n o ho
  have hnx := h.g.nx
  have := h.g.obj n o ho
  have hlt : ∀ t, E.T n = some t → n < st.nx := fun t ht => by have := h.g.lt n t ht; omega
  cases o with
  | box => obtain ⟨b, us, tt, h1, _, _, h4, _⟩ := this; exact ⟨hlt _ h1, hnx ▸ h4.low⟩
  | arr => obtain ⟨b, us, h1, _, _, h4, _⟩ := this; exact ⟨hlt _ h1, hnx ▸ h4.low⟩
  | tip => obtain ⟨b, us, h1, _⟩ := this; exact ⟨hlt _ h1, trivial⟩
  | fact => exact ⟨hlt _ this.1, hnx ▸ this.2.low⟩
  | raw => obtain ⟨b, h1, _⟩ := this; exact ⟨hlt _ h1, trivial⟩
  | map wv ok f =>
    obtain ⟨r, es, cl, h1, _, h3, _⟩ := this
    refine ⟨hlt _ h1, fun x c hx => ?_⟩
    obtain ⟨e, he, rfl⟩ := h3.has x c hx
    obtain ⟨c', h4, h5⟩ := h3.val e he
    rw [hx] at h4; cases h4
    exact hnx ▸ h5.low

/-- What a list of writes may name. -/
def lowU (m : Nat) : List (Nat × C) → Prop
  | [] => True
  | p :: u => p.2.low m ∧ lowU m u
theorem lowU_spec {m : Nat} : ∀ {u : List (Nat × C)}, lowU m u → ∀ p ∈ u, p.2.low m
  | [], _, p, hp => by cases hp
  | q :: u, h, p, hp => by
    rcases List.mem_cons.1 hp with rfl | hp
    · exact h.1
    · exact lowU_spec h.2 p hp
theorem getA_cases (l : List C) (u : List (Nat × C)) (i : Nat) : (∃ p ∈ u, p.1 = i ∧ getA l u i = p.2) ∨ ((∀ p ∈ u, p.1 ≠ i) ∧ getA l u i = l.getD i .any) := by
  induction u with
  | nil => exact .inr ⟨fun p hp => (by cases hp), rfl⟩
  | cons p u ih =>
    obtain ⟨d, c⟩ := p
    simp only [getA]
    cases hb : Nat.beq d i
    · have hne : d ≠ i := fun e => by subst e; rw [Nat.beq_refl] at hb; cases hb
      rcases ih with ⟨q, hq, h1, h2⟩ | ⟨h1, h2⟩
      · exact .inl ⟨q, by simp [hq], h1, by simpa using h2⟩
      · refine .inr ⟨fun p hp => ?_, by simpa using h2⟩
        rcases List.mem_cons.1 hp with rfl | hp
        · exact hne
        · exact h1 p hp
    · exact .inl ⟨(d, c), by simp, Nat.eq_of_beq_eq_true hb, by simp⟩

/-- What is claimed of the first slots is so. -/
def FitsN (l : List C) (u : List (Nat × C)) (l' : List C) (r' : List (Nat × C)) : Nat → Nat → Prop
  | _, 0 => True
  | i, k + 1 => (getA l u i = .any ∨ getA l' r' i = getA l u i) ∧ FitsN l u l' r' (i + 1) k
def keysLt (n : Nat) : List (Nat × C) → Bool
  | [] => true
  | p :: u => Nat.blt p.1 n && keysLt n u
theorem keysLt_spec {n : Nat} : ∀ {u : List (Nat × C)}, keysLt n u = true → ∀ p ∈ u, p.1 < n
  | [], _, p, hp => by cases hp
  | q :: u, h, p, hp => by
    simp only [keysLt, Bool.and_eq_true, Nat.blt_eq] at h
    rcases List.mem_cons.1 hp with rfl | hp
    · exact h.1
    · exact keysLt_spec h.2 p hp
theorem fitsN_spec {l l' : List C} {u r' : List (Nat × C)} : ∀ (k i : Nat), FitsN l u l' r' i k → ∀ j, i ≤ j → j < i + k → getA l u j = .any ∨ getA l' r' j = getA l u j
  | 0, i, _, j, h1, h2 => by omega
  | k + 1, i, h, j, h1, h2 => by
    by_cases e : j = i
    · subst e; exact h.1
    · exact fitsN_spec k (i + 1) h.2 j (by omega) (by omega)

theorem fitsU_spec {l : List C} {r : List (Nat × C)} : ∀ {u : List (Nat × C)}, FitsU l r u → ∀ p ∈ u, p.2 = .any ∨ getA l r p.1 = p.2
  | q :: u, h, p, hp => by
    rcases List.mem_cons.1 hp with rfl | hp
    · exact h.1
    · exact fitsU_spec h.2 p hp
/-- The end of a round, or of what stands ahead of a cut: what is claimed fits, and names from the start's on are dropped. -/
structure Back (st : St) (u : List (Nat × C)) (g : Nat → Option GObj) (st' : St) : Prop where
  n : st'.n = st.n ∧ st'.df = st.df
  fits : FitsN st.l u st'.l st'.r 0 st.l.length
  keys : keysLt st.l.length u = true ∨ FitsU st'.l st'.r u
  nx : st.nx ≤ st'.nx
  G : ∀ n o, g n = some o → st'.G n = some o

theorem Back.sim {E0 E' : Env} {w0 w' : World} {a0 a' : Act} {st st' : St} {u : List (Nat × C)} {g : Nat → Option GObj} (h0 : Sim E0 w0 st a0) (hr : st.r = []) (hb : Back st u g st') (hu : lowU st.nx u) (hg : ∀ n o, g n = some o → st.G n = some o ∨ (n < st.nx ∧ o.low st.nx))
    (hev : Ev E0 w0 E' w') (hs : Sim E' w' st' a') : Ev E0 w0 (E'.drop st.nx) w' ∧ Sim (E'.drop st.nx) w' { st with r := u, G := g } a' := by
  have h1 := h0.g.nx
  refine ⟨hev.drop (by omega), ?_⟩
  have hlow : ∀ i, i < st.n → (getA st.l u i).low st.nx := fun i hi => by
    rcases getA_cases st.l u i with ⟨p, hp, _, he⟩ | ⟨_, he⟩
    · rw [he]; exact lowU_spec hu p hp
    · rw [he]
      have := h0.low i hi
      rw [hr] at this
      exact this
  have hcl : ∀ i, getA st.l u i = .any ∨ getA st.l u i = getA st'.l st'.r i := fun i => by
    by_cases hi : i < st.l.length
    · rcases fitsN_spec _ _ hb.fits i (Nat.zero_le _) (by omega) with h | h
      · exact .inl h
      · exact .inr h.symm
    · rcases getA_cases st.l u i with ⟨p, hp, he, he2⟩ | ⟨_, he⟩
      · rcases hb.keys with hk | hk
        · have := keysLt_spec hk p hp; omega
        · rcases fitsU_spec hk p hp with h | h
          · left; rw [he2, h]
          · right; rw [he2, ← h, he]
      · left; rw [he, List.getD_eq_getElem?_getD, List.getElem?_eq_none (by omega)]; rfl
  refine hs.dropTo (st' := { st with r := u, G := g }) hb.n.1.symm hb.n.2.symm hb.nx (fun i hi => ?_) fun n o ho => ⟨hb.G n o ho, ?_⟩
  · rcases hcl i with h2 | h2
    · exact .inl h2
    · exact .inr ⟨h2, hlow i (hb.n.1 ▸ hi)⟩
  · rcases hg n o ho with h2 | h2
    · exact h0.lowG n o h2
    · exact h2

section
variable {P : Program} {Q : Exit → St → Prop} {st : St} {X : Type}
/-- A loop whose rounds may make names, that are dropped at their ends. -/
theorem aw_loopD {c : Code} (I : X → Prop) (μ : X → Nat) (u : X → List (Nat × C)) (g : X → (Nat → Option GObj) → Nat → Option GObj) (x0 : X) (hr : st.r = []) (h0 : I x0) (e0 : FitsU st.l [] (u x0)) (g0 : ∀ n o, g x0 st.G n = some o → st.G n = some o)
    (hu : ∀ x, I x → lowU st.nx (u x)) (hg : ∀ x, I x → ∀ n o, g x st.G n = some o → st.G n = some o ∨ (n < st.nx ∧ o.low st.nx))
    (round : ∀ x, I x → AW ρ P c (AThen (fun st' => ∃ x', μ x' < μ x ∧ I x' ∧ Back st (u x') (g x' st.G) st') Q) { st with r := u x, G := g x st.G }) : AW ρ P (.loop c) Q st := by
  intro E w a hs
  refine cwp_loop (fun m a1 w1 => ∃ x E1, m = μ x ∧ I x ∧ Ev E w E1 w1 ∧ Sim E1 w1 { st with r := u x, G := g x st.G } a1) (μ x0) ⟨x0, E, rfl, h0, Ev.refl E w, ?_⟩ ?_
  · have h1 : Sim E w { st with r := u x0 } a := le_r (n := st.n) (G := st.G) (nx := st.nx) (df := st.df) e0 rfl E w a (by rw [← hr]; exact hs)
    exact le_G (st := { st with r := u x0 }) g0 E w a h1
  · rintro m a1 w1 ⟨x, E1, rfl, hI, hev, hs1⟩
    refine cwp_mono ?_ (round x hI E1 w1 a1 hs1)
    rintro e a' w' ⟨st', E', h1, h2, h3⟩
    cases e with
    | normal =>
      obtain ⟨x', h4, h5, h6⟩ := h3
      obtain ⟨h7, h8⟩ := Back.sim hs hr h6 (hu x' h5) (hg x' h5) (hev.trans h1) h2
      exact ⟨μ x', h4, x', _, rfl, h5, h7, h8⟩
    | _ => exact lift_trans (hev.trans h1) ⟨st', E', Ev.refl _ _, h2, h3⟩

/-- A cut that drops names. -/
theorem aw_cutD {x y : Code} (I : X → Prop) (u : X → List (Nat × C)) (g : X → (Nat → Option GObj) → Nat → Option GObj) (hr : st.r = [])
    (hu : ∀ x, I x → lowU st.nx (u x)) (hg : ∀ x, I x → ∀ n o, g x st.G n = some o → st.G n = some o ∨ (n < st.nx ∧ o.low st.nx))
    (h1 : AW ρ P x (AThen (fun st' => ∃ x', I x' ∧ Back st (u x') (g x' st.G) st') Q) st) (h2 : ∀ x', I x' → AW ρ P y Q { st with r := u x', G := g x' st.G }) : AW ρ P (.seq x y) Q st := by
  intro E w a hs
  refine wpIn_seq (cwp_mono ?_ (h1 E w a hs))
  rintro e a' w' ⟨st', E', q1, q2, q3⟩
  cases e with
  | normal =>
    obtain ⟨x', h5, h6⟩ := q3
    obtain ⟨h7, h8⟩ := Back.sim hs hr h6 (hu x' h5) (hg x' h5) q1 q2
    exact cwp_mono (fun _ _ _ hq => lift_trans h7 hq) (h2 x' h5 _ w' a' h8)
  | _ => exact ⟨st', E', q1, q2, q3⟩

/-- A variable that is written no more is laid for good. -/
theorem aw_commit {c : Code} {i n wv : Nat} {cs : List C} (h0 : st.at i = .box n 0 0) (hG : st.G n = some (.box wv cs)) (hne : cs ≠ []) (h : AW ρ P c Q { st with r := (i, .elem cs) :: st.r, G := fun k => if k = n then none else st.G k }) : AW ρ P c Q st := by
  intro E w a hs
  obtain ⟨b, us, tt, hT, hh, hone, hr, hL⟩ := hs.g.obj n _ hG
  have hbn := hs.g.tb n _ _ _ b hT rfl
  have hlen := hr.1
  simp only [Array.length_toList] at hlen
  have hp := hs.at i
  rw [h0] at hp
  -- the block's cells are laid
  have hE : Ev E w { E with L := fun k => if k = b then us.size else E.L k } w := by
    refine ⟨Below.refl _ _, rfl, fun k => ?_, fun _ _ _ => rfl, Nat.le_refl _, fun n _ ver wv val h => ⟨ver, wv, val, h, Nat.le_refl _, fun _ => ⟨rfl, fun _ _ _ => rfl⟩⟩, fun n ver wv wv' val h h' _ => by rw [show ({ E with L := fun k => if k = b then us.size else E.L k } : Env).T = E.T from rfl, h] at h'; simp at h'; omega, ?_⟩
    · show E.L k ≤ if k = b then us.size else E.L k
      split
      · rename_i e; subst e; rw [hL]; exact Nat.zero_le _
      · exact Nat.le_refl _
    · refine ⟨rfl, fun k hk => ?_, fun _ _ h _ _ => h, fun _ o h => ⟨o, h, rfl⟩, fun _ t _ _ h k _ _ => ⟨t, h, k⟩, fun n t t' _ _ h1 h2 hv _ => by rw [show ({ E with L := fun k => if k = b then us.size else E.L k } : Env).T = E.T from rfl, h1] at h2; cases h2; omega⟩
      have hk' : E.L k < if k = b then us.size else E.L k := hk
      split at hk'
      · rename_i e
        subst e
        exact ⟨us[0], by simp [World.cell?, hh, show 0 < us.size by omega]⟩
      · omega
  have hg' : SimG { E with L := fun k => if k = b then us.size else E.L k } w (fun k => if k = n then none else st.G k) st.nx := by
    refine ⟨hs.g.nx, fun k o ho => ?_, hs.g.lt, hs.g.tb, hs.g.ap, fun k hk => ?_, hs.g.base⟩
    · have hkn : k ≠ n := fun e => by subst e; simp at ho
      rw [if_neg hkn] at ho
      refine (hs.g.obj k o ho).keep hE rfl fun ver wv val b' h1 h2 => ⟨rfl, ?_⟩
      have hne : b' ≠ b := fun e => by subst e; exact hs.g.ap k n _ _ b' h1 hT hkn h2 rfl
      show (if b' = b then us.size else E.L b') = E.L b'
      rw [if_neg hne]
    · show (if k = b then us.size else E.L k) = 0
      rw [if_neg (by omega)]
      exact hs.g.fresh k hk
  have hrE := hr.ev hE
  have hel : R { E with L := fun k => if k = b then us.size else E.L k } w (.elem cs) (.pointer (some ⟨b, 0, none⟩)) := by
    refine .elem (us := fun j => us.toList.getD j undef) hne hone (.inr ⟨b, 0, rfl, ?_, fun j hj => ?_⟩) hrE.us.1
    · show 0 + cs.length ≤ if b = b then us.size else E.L b
      rw [if_pos rfl]; omega
    · rw [Nat.zero_add]
      refine cell_of_heap hh ?_
      rw [← Array.getElem?_toList]
      exact hrE.us.2 j hj
  have hv : a.tmps.getD i undef = .pointer (some ⟨b, 0, none⟩) := by
    generalize a.tmps.getD i undef = v at hp
    cases hp with
    | box h1 h2 =>
      have := (h2 _ _ _ hT).2 rfl
      simp only [blk, Option.some.injEq] at this
      rw [this]
  have hs2 := hs.evd hE hg'
  have hs3 : Sim { E with L := fun k => if k = b then us.size else E.L k } w { st with r := (i, .elem cs) :: st.r, G := fun k => if k = n then none else st.G k } a := by
    refine ⟨hs.d.ev hE, hs.sz, fun j v hj => ?_, hg'⟩
    simp only [getA]
    cases hb : Nat.beq i j
    · exact hs2.t j v hj
    · have hij := Nat.eq_of_beq_eq_true hb
      subst hij
      have : a.tmps.getD i undef = v := by
        rw [Array.getD_eq_getD_getElem?, hj]; rfl
      rw [← this, hv]
      exact hel
  exact cwp_mono (fun _ _ _ hq => lift_trans hE hq) (h _ w a hs3)

/-! ### Results -/
/-- One result. -/
def rvSem (tmps : Array Value) : ResultVar → Sem Value
  | .tmp t => pure (tmps.getD t undef)
  | .cell x t => do loadVar t (← asAddr (tmps.getD x undef))
theorem results_eq (fn : Func) (tmps : Array Value) : results fn tmps = (do
  let vs ← fn.results.mapM (rvSem tmps)
  pure (if h : vs.size = 1 then vs[0] else .tuple vs)) := by
  unfold results
  congr 1
def RV (P : Program) (st : St) (rv : ResultVar) (c : C) : Prop := ∀ E w (a : Act), Sim E w { st with df := 0 } a → ∃ v, (rvSem a.tmps rv).run P w = .ok v w ∧ R E w c v
theorem rv_tmp {i : Nat} {c : C} (h : Is (st.at i) c) : RV P st (.tmp i) c := fun E w a hs => ⟨_, rfl, h.eq ▸ (show R E w (st.at i) (a.tmps.getD i undef) from hs.at i)⟩
theorem rv_box {i n wv t sz : Nat} {ag : Bool} {cs : List C} {c : C} [Ty P t ag sz] (h : st.at i = .box n 0 0) (hG : st.G n = some (.box wv cs)) (hsz : cs.length = sz) (hne : cs ≠ []) (hc : c = bif ag then .agg cs else cs.headD .any) : RV P st (.cell i t) c := by
  intro E w a hs
  obtain ⟨b, us, tt, hT, hh, hone, hr, hL⟩ := hs.g.obj n _ hG
  have hp : R E w (st.at i) (a.tmps.getD i undef) := hs.at i
  rw [h] at hp
  generalize hv : a.tmps.getD i undef = v at hp
  cases hp with
  | @box _ _ _ b' hn hp =>
    have hb' : b' = b := by
      have := (hp _ _ _ hT).2 rfl
      simp only [blk, Option.some.injEq] at this
      exact this.symm
    subst hb'
    have hlen := hr.1
    simp only [Array.length_toList] at hlen
    cases ag with
    | true =>
      simp only [cond_true] at hc
      subst hc
      have hrun := run_load_cells (P := P) (t := t) (n := sz) (b := b') (off := 0) (us := us.toList) (w' := w) (by simp; omega) fun j v hj => by
        rw [Nat.zero_add]; exact cell_of_heap hh (by rw [← Array.getElem?_toList]; exact hj)
      refine ⟨.agg us.toList.toArray, ?_, hr.agg hone⟩
      simpa [rvSem, hv, asAddr, Instr.loadAt, Instr.sureAddr] using hrun
    | false =>
      simp only [cond_false] at hc
      have h1 := Ty.row (P := P) (w := w) (t := t) (ag := false) (n := sz)
      cases cs with
      | nil => exact (hne rfl).elim
      | cons d ds =>
        simp only [List.headD_cons] at hc
        subst hc
        have hlt : 0 < us.toList.length := by rw [hr.1]; simp
        have hcell : w.cell? ⟨b', 0, none⟩ = some us.toList[0] := cell_of_heap hh (by rw [← Array.getElem?_toList]; exact List.getElem?_eq_getElem hlt)
        refine ⟨us.toList[0], ?_, hr.2 0 _ _ rfl (List.getElem?_eq_getElem hlt)⟩
        simp [rvSem, hv, asAddr, loadVar, h1, load, Sem.run, hcell]
theorem resC_1 {fn : Func} {r1 : ResultVar} {c1 : C} (hf : fn.results = #[r1]) (h1 : RV P st r1 c1) : resC P fn st c1 := by
  intro E w a hs
  obtain ⟨v1, e1, q1⟩ := h1 E w a hs
  refine ⟨v1, ?_, q1⟩
  simp [results_eq, hf, e1]
theorem resC_2 {fn : Func} {r1 r2 : ResultVar} {c1 c2 : C} (hf : fn.results = #[r1, r2]) (h1 : RV P st r1 c1) (h2 : RV P st r2 c2) : resC P fn st (.tup [c1, c2]) := by
  intro E w a hs
  obtain ⟨v1, e1, q1⟩ := h1 E w a hs
  obtain ⟨v2, e2, q2⟩ := h2 E w a hs
  refine ⟨.tuple [v1, v2].toArray, ?_, Rs.tup (Rs.cons q1 (Rs.cons q2 Rs.nil))⟩
  simp [results_eq, hf, e1, e2]
end
end Go.AB

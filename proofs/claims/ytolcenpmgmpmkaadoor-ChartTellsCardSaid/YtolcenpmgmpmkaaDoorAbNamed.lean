/-
  Contracts whose results bear names; own slices that are read by what only reads; own slices that are laid for good; lengths of slices that are known as they are.
-/
import Derived.Test.YtolcenpmgmpmkaaDoorAbRange
import Derived.Test.YtolcenpmgmpmkaaDoorAbMix
import Derived.Test.YtolcenpmgmpmkaaDoorAbGive
namespace Go.AB
open Go Go.RowKit
open Go.AB.Enc (cells)
variable {ρ : Option Nat}
theorem C.low.mono {m k : Nat} {c : C} (h : c.low m) (hk : m ≤ k) : c.low k := by
  induction h with
  | v => exact .v
  | list _ h2 ih => exact .list ih fun n hn => Nat.lt_of_lt_of_le (h2 n hn) hk
  | elem _ ih => exact .elem ih
  | box h => exact .box (Nat.lt_of_lt_of_le h hk)
  | arr h => exact .arr (Nat.lt_of_lt_of_le h hk)
  | own h => exact .own (Nat.lt_of_lt_of_le h hk)
  | fn _ ih => exact .fn ih
  | map h => exact .map (Nat.lt_of_lt_of_le h hk)
  | agg _ ih => exact .agg ih
  | tup _ ih => exact .tup ih
  | any => exact .any
theorem GObj.low_mono {m k : Nat} {o : GObj} (h : o.low m) (hk : m ≤ k) : o.low k := by
  cases o with
  | box => exact fun c hc => (h c hc).mono hk
  | arr => exact fun c hc => (h c hc).mono hk
  | tip => trivial
  | fact => exact C.low.mono h hk
  | raw => trivial
  | map => exact fun x c hx => (h x c hx).mono hk
theorem SimG.lowG {E : Env} {w : World} {G : Nat → Option GObj} {nx : Nat} (hg : SimG E w G nx) {n : Nat} {o : GObj} (ho : G n = some o) : n < nx ∧ o.low nx := by
  have hnx := hg.nx
  have hlt : ∀ t, E.T n = some t → n < nx := fun t ht => by have := hg.lt n t ht; omega
  have := hg.obj n o ho
  cases o with
  | box => obtain ⟨b, us, tt, h1, _, _, h4, _⟩ := this; exact ⟨hlt _ h1, hnx ▸ h4.low⟩
  | arr => obtain ⟨b, us, h1, _, _, h4, _⟩ := this; exact ⟨hlt _ h1, hnx ▸ h4.low⟩
  | tip => obtain ⟨b, us, h1, _⟩ := this; exact ⟨hlt _ h1, trivial⟩
  | fact => exact ⟨hlt _ this.1, hnx ▸ this.2.low⟩
  | raw => obtain ⟨b, h1, _⟩ := this; exact ⟨hlt _ h1, trivial⟩
  | map wv ok f =>
    obtain ⟨r, es, cl, h1, _, h3, _⟩ := this
    refine ⟨hlt _ h1, fun x c hx => ?_⟩
    obtain ⟨e, he, rfl⟩ := h3.has x c hx
    obtain ⟨c', h4, h5⟩ := h3.val e he
    rw [hx] at h4; cases h4
    exact hnx ▸ h5.low

/-- A contract whose result has new named objects, out of the body's walk. -/
theorem pc_named_of_body {P : Program} {f : FuncId} {fn : Func} {c : Code} {args : List C} {r : C} {G : Nat → Option GObj} {nx : Nat} (g : Nat → Option GObj) (m : Nat) (hf : P.funcs[f]? = some fn) (hb : fn.body = some c) (hl : r.low m) (hm : nx ≤ m) (hg : (∀ n o, G n = some o → n < nx) → ∀ n o, g n = some o → G n = some o ∨ (n < m ∧ o.low m))
    (h : AW none P c (Ends P fn r g m) { n := args.length + (fn.ntmps - args.length), l := args, r := [], G := G, nx := nx }) : PC P f args G nx fun r' G' nx' => r' = r ∧ G' = g ∧ nx' = m := by
  intro E w vs hr hg0
  have key := pc_of_body (K := fun r' G' nx' => r' = r ∧ m ≤ nx' ∧ ∀ n o, g n = some o → G' n = some o) hf hb (AW.mono h fun e st hq => by
    cases e with
    | normal => exact ⟨r, hq.1, rfl, hq.2.1, hq.2.2⟩
    | ret => exact ⟨r, hq.1, rfl, hq.2.1, hq.2.2⟩
    | _ => exact hq)
  refine (key E w vs hr hg0).mono ?_
  rintro e w' ⟨r', v, E', G', nx', e1, e2, e3, e4, rfl, e5, e6⟩
  have hnx := hg0.nx
  refine ⟨r', v, E'.drop m, g, m, e1, e2.drop (by omega), e3.drop hl, ?_, rfl, rfl, rfl⟩
  refine (e4.weak e6).drop fun n o ho => ?_
  rcases hg (fun n o ho => (hg0.lowG ho).1) n o ho with h1 | h1
  · have := hg0.lowG h1
    exact ⟨by omega, GObj.low_mono this.2 hm⟩
  · exact h1
theorem e_call_named {P : Program} {o : Oper} {st : St} {K : St → Prop} {f : FuncId} [Fun P f] {fv : Operand} {args : List Operand} {ats : Array TypeId} {caps as : List C} {r : C} {g : Nat → Option GObj} {m : Nat} (ho : o.op = .call { callee := .value fv, args := args.toArray, argTypes := ats }) (hf : evC st fv = .fn (.func f) caps) (has : args.map (evC st) ++ caps = as)
    (hp : PC P f as st.G st.nx fun r' G' nx' => r' = r ∧ G' = g ∧ nx' = m) (h : K (St.put { st with G := g, nx := m } o.dst r)) : EStep P o st K :=
  e_call ho hf has (hp.mono fun r' G' nx' ⟨e1, e2, e3⟩ => by subst e1; subst e2; subst e3; exact h)

/-! ### Reading what is owned -/
/-- So many cells lie in a block. -/
def cellsIn (w : World) (b : Nat) : Nat := match w.heap[b]? with
  | some (.cells us _ _) => us.size
  | _ => 0
theorem cellsIn_of {w : World} {b j : Nat} {u : Value} (h : w.cell? ⟨b, j, none⟩ = some u) : j < cellsIn w b := by
  unfold World.cell? at h
  unfold cellsIn
  dsimp only at h ⊢
  split at h
  · rename_i c tt fz e
    rw [e]
    simp only [Option.isSome_none, Bool.false_eq_true, if_false] at h
    exact (Array.getElem?_eq_some_iff.1 h).1
  · cases h
/-- All that lies in a world is laid. -/
def allE (w : World) : Env := ⟨w.heap.size, fun b => cellsIn w b, fun _ => none, 0, 0⟩
theorem allE_sim (w : World) : SimG (allE w) w noG 0 := by
  refine ⟨rfl, fun n o ho => (by cases ho), fun n t ht => (by cases ht), fun n ver wv val b ht => (by cases ht), fun n m t t' b ht => (by cases ht), fun b hb => ?_, Nat.le_refl _⟩
  show cellsIn w b = 0
  unfold cellsIn
  rw [Array.getElem?_eq_none hb]
/-- A value is read as if its own slices were laid. -/
inductive Rdg (G : Nat → Option GObj) : C → C → Prop
  | low {c : C} : c.low 0 → Rdg G c c
  | own {α : Type} [Enc α] {n ver wv len sz : Nat} {tt : TypeId} {cs : List C} (xs : List α) : G n = some (.arr ver wv tt sz len cs) → sz = Enc.n α → cs = flatC xs → len = xs.length → Rdg G (.own n ver len) (lst xs)
  | agg {cs ds : List C} : cs.length = ds.length → (∀ (j : Nat) (c d : C), cs[j]? = some c → ds[j]? = some d → Rdg G c d) → (∀ d ∈ ds, d.one = true) → Rdg G (.agg cs) (.agg ds)
theorem Rdg.to {E : Env} {w : World} {G : Nat → Option GObj} {nx : Nat} (hg : SimG E w G nx) {c d : C} (h : Rdg G c d) : ∀ {v : Value}, R E w c v → R (allE w) w d v := by
  have h0 : ∀ {c : C} {v : Value}, R E w c v → c.low 0 → R (allE w) w c v := fun hr hl => hr.to0 hl fun b i u hu => cellsIn_of hu
  induction h with
  | low hl => exact fun hr => h0 hr hl
  | @own α _ n ver wv len sz tt cs xs hG hsz hcs hlen =>
    intro v hr
    subst hsz; subst hcs; subst hlen
    obtain ⟨val, us, hT, how, hone, hrs, _, hpos⟩ := hg.obj n _ hG
    obtain ⟨rfl, _, a, cap, rfl, hc1, hc2⟩ := own_at hr hT
    have hr0 : Rs (allE w) w (flatC xs) us := ⟨hrs.1, fun j c v hc hv => h0 (hrs.2 j c v hc hv) (flatC_low xs c (List.mem_of_getElem? hc))⟩
    have := R.mk_list (E := allE w) (w := w) (rows := xs.map cells) (a := a) (cap := cap) (sz := Enc.n α) (us := us) (tok := .none) (by simpa using hc1) hc2 hpos (map_len xs) (fun r hr c hc => by
      obtain ⟨x, _, rfl⟩ := List.mem_map.1 hr
      exact Enc.one x c hc) hr0 (by
      rcases how.2 with ⟨e, h1⟩ | ⟨g, cap', cur, e, _, hh, h1, h2, h3, h4⟩
      · exact .inl (by rw [List.length_eq_zero_iff] at h1; rw [h1]; rfl)
      · cases e
        refine .inr ⟨g, 0, rfl, ?_, fun j u hu => ?_⟩
        · show 0 + us.length ≤ cellsIn w g
          unfold cellsIn
          rw [hh]
          have := how.1
          have hle : xs.length * Enc.n α ≤ cap * Enc.n α := Nat.mul_le_mul_right _ h1
          simp only
          omega
        · rw [Nat.zero_add, own_cell how rfl (by rw [← how.1]; exact (List.getElem?_eq_some_iff.1 hu).1)]
          exact hu) (by simp) (by simp) (by simp)
    rw [List.length_map] at this
    exact this
  | @agg cs ds hl hd hone ih =>
    intro v hr
    obtain ⟨vs, rfl, hrs, h1⟩ := hr.agg_inv
    refine Rs.agg ⟨by rw [hrs.1, hl], fun j d v hd' hv => ?_⟩ hone
    have hlt := (List.getElem?_eq_some_iff.1 hd').1
    obtain ⟨c, hc⟩ : ∃ c, cs[j]? = some c := ⟨_, List.getElem?_eq_getElem (by rw [hl]; exact hlt)⟩
    exact ih j c d hc hd' (hrs.2 j c v hc hv)
def Rdgs (G : Nat → Option GObj) : List C → List C → Prop
  | [], [] => True
  | c :: cs, d :: ds => Rdg G c d ∧ Rdgs G cs ds
  | _, _ => False
theorem Rdgs.to {E : Env} {w : World} {G : Nat → Option GObj} {nx : Nat} (hg : SimG E w G nx) : ∀ {cs ds : List C} {vs : List Value}, Rdgs G cs ds → Rs E w cs vs → Rs (allE w) w ds vs
  | [], [], vs, _, hr => ⟨hr.1, fun j c v hc => by cases hc⟩
  | c :: cs, d :: ds, [], _, hr => absurd hr.1 (by simp)
  | c :: cs, d :: ds, v :: vs, h, hr => Rs.cons (h.1.to hg (hr.2 0 c v rfl rfl)) (Rdgs.to hg (cs := cs) h.2 ⟨by simpa using hr.1, fun j c v h1 h2 => hr.2 (j + 1) c v (by simpa using h1) (by simpa using h2)⟩)
  | [], d :: ds, _, h, _ => h.elim
  | c :: cs, [], _, h, _ => h.elim
/-- What only exact values are in. -/
def Flat (r : C) : Prop := ∀ (E E' : Env) (w w' : World) (v : Value), R E w r v → R E' w' r v
theorem flat_v (x : Value) : Flat (.v x) := fun _ _ _ _ _ h => by cases h with | v h => exact .v h
theorem flat_tup {cs : List C} (h : ∀ c ∈ cs, Flat c) : Flat (.tup cs) := fun E E' w w' v hr => by
  obtain ⟨vs, rfl, h1⟩ := hr.tup_inv
  exact Rs.tup ⟨h1.1, fun j c v hc hv => h c (List.mem_of_getElem? hc) _ _ _ _ _ (h1.2 j c v hc hv)⟩
theorem flat_agg {cs : List C} (h : ∀ c ∈ cs, Flat c) : Flat (.agg cs) := fun E E' w w' v hr => by
  obtain ⟨vs, rfl, h1, h2⟩ := hr.agg_inv
  exact Rs.agg ⟨h1.1, fun j c v hc hv => h c (List.mem_of_getElem? hc) _ _ _ _ _ (h1.2 j c v hc hv)⟩ h2
theorem pc_read {P : Program} {f : FuncId} {as as' : List C} {r : C} {G : Nat → Option GObj} {nx : Nat} (hp : Pure P f as' r) (hrd : Rdgs G as as') (hfl : Flat r) : PC P f as G nx fun r' G' nx' => r' = r ∧ G' = G ∧ nx' = nx := by
  intro E w vs hr hg
  refine (hp noG 0 (allE w) w vs (hrd.to hg hr) (allE_sim w)).mono ?_
  rintro e w' ⟨r', v, E', G', nx', rfl, e2, e3, _, rfl, _, _⟩
  have hbel : Below w.heap.size w w' := e2.below
  have hlt : ∀ {b : Nat} {o : Obj}, w.heap[b]? = some o → w'.heap[b]? = some o := fun {b o} h => (hbel.block b (Array.getElem?_eq_some_iff.1 h).1).trans h
  have hev : Ev E w E w' := by
    refine ⟨hbel.mono hg.base, rfl, fun _ => Nat.le_refl _, fun b i hi => ?_, Nat.le_refl _, fun n _ ver wv val h => ⟨ver, wv, val, h, Nat.le_refl _, fun _ => ⟨rfl, fun _ b hb => hbel.block b (hg.tb n _ _ _ b h hb).2⟩⟩, fun n ver wv wv' val h h' _ => by rw [h] at h'; simp at h'; omega, ⟨rfl, fun b hb => absurd hb (Nat.lt_irrefl _), fun b o h _ _ => hlt h, fun b o h => ⟨o, hlt h, rfl⟩, fun n t _ _ h k _ _ => ⟨t, h, k⟩, fun n t t' b _ h h' hv _ => by rw [h] at h'; cases h'; omega⟩⟩
    have : b < w.heap.size := Nat.lt_of_not_le fun hle => by have := hg.fresh b hle; omega
    exact World.cell?_of_block (w := w) (hbel.block b this)
  refine ⟨r', v, E, G, nx, rfl, hev, hfl _ _ _ _ _ e3, ⟨hg.nx, fun n o ho => ?_, hg.lt, fun n ver wv val b h1 h2 => ?_, hg.ap, fun b hb => hg.fresh b (Nat.le_trans hbel.size hb), Nat.le_trans hg.base hbel.size⟩, rfl, rfl, rfl⟩
  · exact (hg.obj n o ho).keep hev rfl fun ver wv val b h1 h2 => ⟨hbel.block b (hg.tb n ver wv val b h1 h2).2, rfl⟩
  · have := hg.tb n ver wv val b h1 h2
    exact ⟨this.1, Nat.lt_of_lt_of_le this.2 hbel.size⟩
theorem e_call_read {P : Program} {o : Oper} {st : St} {K : St → Prop} {f : FuncId} [Fun P f] {fv : Operand} {args : List Operand} {ats : Array TypeId} {caps as as' : List C} {r : C} (ho : o.op = .call { callee := .value fv, args := args.toArray, argTypes := ats }) (hf : evC st fv = .fn (.func f) caps) (has : args.map (evC st) ++ caps = as)
    (hp : Pure P f as' r) (hrd : Rdgs st.G as as') (hfl : Flat r) (h : K (st.put o.dst r)) : EStep P o st K :=
  e_call_one ho hf has (pc_read hp hrd hfl) h

/-! ### Own slices are laid for good -/
theorem own_commit_core {E : Env} {w : World} {G : Nat → Option GObj} {nx : Nat} (hg : SimG E w G nx) {α : Type} [Enc α] {n ver wv len sz : Nat} {tt : TypeId} {cs : List C} (xs : List α) (hG : G n = some (.arr ver wv tt sz len cs)) (hsz : sz = Enc.n α) (hcs : cs = flatC xs) (hlen : len = xs.length) :
    ∃ E', Ev E w E' w ∧ SimG E' w (delG G n) nx ∧ ∀ v, R E w (.own n ver len) v → R E' w (lst xs) v := by
  subst hsz; subst hcs; subst hlen
  obtain ⟨val, us, hT, how, hone, hrs, hL, hpos⟩ := hg.obj n _ hG
  have hE : Ev E w { E with L := fun k => if blk val = some k then us.length else E.L k } w := by
    refine ⟨Below.refl _ _, rfl, fun k => ?_, fun _ _ _ => rfl, Nat.le_refl _, fun n _ ver wv val h => ⟨ver, wv, val, h, Nat.le_refl _, fun _ => ⟨rfl, fun _ _ _ => rfl⟩⟩, fun n ver wv wv' v h h' _ => by rw [show ({ E with L := fun k => if blk val = some k then us.length else E.L k } : Env).T = E.T from rfl, h] at h'; simp at h'; omega, ?_⟩
    · show E.L k ≤ if blk val = some k then us.length else E.L k
      split
      · rename_i e; rw [hL k e]; exact Nat.zero_le _
      · exact Nat.le_refl _
    · refine ⟨rfl, fun k hk => ?_, fun _ _ h _ _ => h, fun _ o h => ⟨o, h, rfl⟩, fun _ t _ _ h k _ _ => ⟨t, h, k⟩, fun n t t' _ _ h1 h2 hv _ => by rw [show ({ E with L := fun k => if blk val = some k then us.length else E.L k } : Env).T = E.T from rfl, h1] at h2; cases h2; omega⟩
      have hk' : E.L k < if blk val = some k then us.length else E.L k := hk
      split at hk'
      · rename_i e
        have h0 : 0 < us.length := by omega
        exact ⟨us[0], by rw [own_cell how e (by rw [← how.1]; exact h0), List.getElem?_eq_getElem h0]⟩
      · omega
  refine ⟨_, hE, ⟨hg.nx, fun k o ho => ?_, hg.lt, hg.tb, hg.ap, fun k hk => ?_, hg.base⟩, fun v hr => ?_⟩
  · have hkn : k ≠ n := fun e => by subst e; simp [delG] at ho
    rw [delG_other hkn] at ho
    refine (hg.obj k o ho).keep hE rfl fun ver wv v' b' h1 h2 => ⟨rfl, ?_⟩
    show (if blk val = some b' then us.length else E.L b') = E.L b'
    rw [if_neg (fun e => hg.ap k n _ _ b' h1 hT hkn h2 e)]
  · show (if blk val = some k then us.length else E.L k) = 0
    rw [if_neg (fun e => by have := (hg.tb n _ _ _ k hT e).2; omega)]
    exact hg.fresh k hk
  · obtain ⟨rfl, _, a, cap, rfl, hc1, hc2⟩ := own_at hr hT
    have := R.mk_list (E := { E with L := fun k => if blk (.slice a xs.length cap) = some k then us.length else E.L k }) (w := w) (rows := xs.map cells) (a := a) (cap := cap) (sz := Enc.n α) (us := us) (tok := .none) (by simpa using hc1) hc2 hpos (map_len xs) (fun r hr c hc => by
      obtain ⟨x, _, rfl⟩ := List.mem_map.1 hr
      exact Enc.one x c hc) (hrs.ev hE) (by
      rcases how.2 with ⟨e, h1⟩ | ⟨g, cap', cur, e, _, hh, h1, h2, h3, h4⟩
      · exact .inl (by rw [List.length_eq_zero_iff] at h1; rw [h1]; rfl)
      · cases e
        refine .inr ⟨g, 0, rfl, ?_, fun j u hu => ?_⟩
        · show 0 + us.length ≤ if some g = some g then us.length else E.L g
          rw [if_pos rfl]; omega
        · rw [Nat.zero_add, own_cell how rfl (by rw [← how.1]; exact (List.getElem?_eq_some_iff.1 hu).1)]
          exact hu) (by simp) (by simp) (by simp)
    rw [List.length_map] at this
    exact this
/-- .. as a temporary holds it. -/
theorem aw_commit_own {P : Program} {Q : Exit → St → Prop} {st : St} {c : Code} {α : Type} [Enc α] (i : Nat) {n ver wv len sz : Nat} {tt : TypeId} {cs : List C} (xs : List α) (h0 : st.at i = .own n ver len) (hG : st.G n = some (.arr ver wv tt sz len cs)) (hsz : sz = Enc.n α) (hcs : cs = flatC xs) (hlen : len = xs.length) (h : AW ρ P c Q { st with r := (i, lst xs) :: st.r, G := delG st.G n }) : AW ρ P c Q st := by
  intro E w a hs
  obtain ⟨E', hE, hg', hl⟩ := own_commit_core hs.g xs hG hsz hcs hlen
  have hp := hs.at i
  rw [h0] at hp
  have hs2 := hs.evd hE hg'
  refine cwp_mono (fun _ _ _ hq => lift_trans hE hq) (h _ w a ⟨hs.d.ev hE, hs.sz, fun j v hj => ?_, hg'⟩)
  simp only [getA]
  cases hb : Nat.beq i j
  · exact hs2.t j v hj
  · have hij := Nat.eq_of_beq_eq_true hb
    subst hij
    have hv : a.tmps.getD i undef = v := by rw [Array.getD_eq_getD_getElem?, hj]; rfl
    exact hl v (hv ▸ hp)
/-- .. as a variable's cell holds it. -/
theorem aw_commit_own_cell {P : Program} {Q : Exit → St → Prop} {st : St} {c : Code} {α : Type} [Enc α] (m off : Nat) {n ver wv wm len sz : Nat} {tt : TypeId} {cs ds : List C} (xs : List α) (hM : st.G m = some (.box wm ds)) (h0 : ds[off]? = some (.own n ver len)) (hG : st.G n = some (.arr ver wv tt sz len cs)) (hnm : m ≠ n) (hsz : sz = Enc.n α) (hcs : cs = flatC xs) (hlen : len = xs.length) (h : AW ρ P c Q { st with G := setG (delG st.G n) m (.box wm (ds.set off (lst xs))) }) : AW ρ P c Q st := by
  intro E w a hs
  obtain ⟨E', hE, hg', hl⟩ := own_commit_core hs.g xs hG hsz hcs hlen
  obtain ⟨b, us, tt2, hT, hh, hone, hr, hL⟩ := hg'.obj m (.box wm ds) (by rw [delG_other hnm]; exact hM)
  obtain ⟨b2, us2, tt3, hT2, hh2, _, hr2, _⟩ := hs.g.obj m _ hM
  have hs2 := hs.evd hE hg'
  have hTT : E'.T m = E.T m := by
    obtain ⟨ver1, wv1, val1, q1, q2, q3⟩ := hE.T m (hs.g.lt m _ hT2) _ _ _ hT
    rw [hT2] at q1
    simp only [Option.some.injEq, Prod.mk.injEq] at q1
    obtain ⟨rfl, rfl, rfl⟩ := q1
    rw [hT, hT2, (q3 rfl).1]
  have e1 : us = us2 := by
    rw [hTT, hT2] at hT
    simp only [Option.some.injEq, Prod.mk.injEq, Value.pointer.injEq, Addr.mk.injEq, true_and, and_true] at hT
    subst hT
    rw [hh2] at hh
    simp only [Option.some.injEq, Obj.cells.injEq] at hh
    exact hh.1.symm
  subst e1
  refine cwp_mono (fun _ _ _ hq => lift_trans hE hq) (h E' w a ⟨hs.d.ev hE, hs.sz, hs2.t, ⟨hg'.nx, fun k o ho => ?_, hg'.lt, hg'.tb, hg'.ap, hg'.fresh, hg'.base⟩⟩)
  simp only [setG] at ho
  split at ho
  · rename_i ek
    subst ek
    simp only [Option.some.injEq] at ho
    subst ho
    refine ⟨b, us, tt2, hT, hh, fun d hd => ?_, ⟨by rw [hr.1]; simp, fun j d v hd hv => ?_⟩, hL⟩
    · rcases List.mem_or_eq_of_mem_set hd with hd | rfl
      · exact hone d hd
      · rfl
    · rw [List.getElem?_set] at hd
      split at hd
      · rename_i ej
        subst ej
        split at hd
        · simp only [Option.some.injEq] at hd
          subst hd
          exact hl v (hr2.2 off _ v h0 hv)
        · cases hd
      · exact hr.2 j d v hd hv
  · exact hg'.obj k o ho

/-- The length of a slice that is known as it is. -/
theorem n_len_v {P : Program} {o : Oper} {st : St} {t : TypeId} {x : Operand} {a : Option Addr} {n cap : Nat} {e : TypeId} [Elt P t e] (ho : o.op = .call { callee := .builtin .len, args := #[x], argTypes := #[t] }) (hx : evC st x = .v (.slice a n cap)) (hn : n ≤ 9223372036854775807) : NStep P o st (.v (.int .i64 (n : Int))) := fun E w ac hs => by
  have e1 := (hx ▸ hs.ev x).v_inv
  generalize hv : ac.eval x = v at e1
  subst e1
  refine ⟨_, .v (okV_i64 ⟨by omega, by omega⟩), fun w' => ?_⟩
  have q1 := Elt.spec (P := P) (t := t) (e := e)
  simp [execOp, ho, hv, resolve, invoke, builtin, Builtin.len_, run_underlying q1, goInt]
section
variable {P : Program} {st : St}
theorem ends_v3 {fn : Func} {r1 r2 r3 : ResultVar} {r s t c1 c2 c3 : C} {G : Nat → Option GObj} {nx : Nat} (hf : fn.results = #[r1, r2, r3]) (h1 : RV P st r1 c1) (h2 : RV P st r2 c2) (h3 : RV P st r3 c3) (hn : nx ≤ st.nx) (hG : ∀ n o, G n = some o → st.G n = some o) (e1 : Wk c1 r) (e2 : Wk c2 s) (e3 : Wk c3 t) : Ends P fn (.tup [r, s, t]) G nx .ret st :=
  ⟨resC_3 hf (h1.wk e1) (h2.wk e2) (h3.wk e3), hn, hG⟩
theorem ends_v4 {fn : Func} {r1 r2 r3 r4 : ResultVar} {r s t u c1 c2 c3 c4 : C} {G : Nat → Option GObj} {nx : Nat} (hf : fn.results = #[r1, r2, r3, r4]) (h1 : RV P st r1 c1) (h2 : RV P st r2 c2) (h3 : RV P st r3 c3) (h4 : RV P st r4 c4) (hn : nx ≤ st.nx) (hG : ∀ n o, G n = some o → st.G n = some o) (e1 : Wk c1 r) (e2 : Wk c2 s) (e3 : Wk c3 t) (e4 : Wk c4 u) : Ends P fn (.tup [r, s, t, u]) G nx .ret st :=
  ⟨resC_4 hf (h1.wk e1) (h2.wk e2) (h3.wk e3) (h4.wk e4), hn, hG⟩
theorem ends_3 {fn : Func} {i j k : Nat} {r1 r2 r3 r1' r2' r3' : C} {G : Nat → Option GObj} {nx : Nat} (hf : fn.results = #[.tmp i, .tmp j, .tmp k]) (h1 : Is (st.at i) r1') (h2 : Is (st.at j) r2') (h3 : Is (st.at k) r3') (hn : nx ≤ st.nx) (hG : ∀ n o, G n = some o → st.G n = some o) (e1 : r1' = r1) (e2 : r2' = r2) (e3 : r3' = r3) : Ends P fn (.tup [r1, r2, r3]) G nx .ret st :=
  ends_v3 hf (rv_tmp h1) (rv_tmp h2) (rv_tmp h3) hn hG (Wk.of_eq e1) (Wk.of_eq e2) (Wk.of_eq e3)
theorem ends_4 {fn : Func} {i j k l : Nat} {r1 r2 r3 r4 r1' r2' r3' r4' : C} {G : Nat → Option GObj} {nx : Nat} (hf : fn.results = #[.tmp i, .tmp j, .tmp k, .tmp l]) (h1 : Is (st.at i) r1') (h2 : Is (st.at j) r2') (h3 : Is (st.at k) r3') (h4 : Is (st.at l) r4') (hn : nx ≤ st.nx) (hG : ∀ n o, G n = some o → st.G n = some o) (e1 : r1' = r1) (e2 : r2' = r2) (e3 : r3' = r3) (e4 : r4' = r4) : Ends P fn (.tup [r1, r2, r3, r4]) G nx .ret st :=
  ends_v4 hf (rv_tmp h1) (rv_tmp h2) (rv_tmp h3) (rv_tmp h4) hn hG (Wk.of_eq e1) (Wk.of_eq e2) (Wk.of_eq e3) (Wk.of_eq e4)
end
end Go.AB

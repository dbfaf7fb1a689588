/-
  Slices that grow and are written in place; they may be read by what only reads, and are written again.
-/
import Derived.Test.YtolcenpmgmpmkaaDoorAbThirteen
namespace Go.AB
open Go Go.RowKit
open Go.AB.Enc (cells)
variable {ρ : Option Nat}
section
variable {P : Program} {Q : Exit → St → Prop} {st : St}
theorem own_of_nil {E : Env} {w : World} {v : Value} {nx : Nat} (hnx : E.nx = nx) (hp : R E w (.list [] .nil) v) : R (E.name (.slice none 0 0)) w (.own nx 0 0) v := by
  obtain ⟨as, cap, s, us, rfl, h1, h2, _, _, _, _, _, z1, _⟩ := hp.list_inv
  obtain ⟨rfl, rfl⟩ := z1 rfl
  refine R.own (by simp [Env.name]; omega) (Nat.le_refl _) (Nat.zero_le _) fun ver wv val ht => ?_
  simp only [Env.name] at ht
  rw [if_pos (by omega)] at ht
  simp only [Option.some.injEq, Prod.mk.injEq] at ht
  obtain ⟨rfl, rfl, rfl⟩ := ht
  exact ⟨Nat.le_refl _, fun _ => rfl⟩
theorem own_name {E : Env} {w : World} {G : Nat → Option GObj} {nx : Nat} (hg : SimG E w G nx) (e : TypeId) {sz : Nat} (hsz : 1 ≤ sz) : Ev E w (E.name (.slice none 0 0)) w ∧ SimG (E.name (.slice none 0 0)) w (setG G nx (.arr 0 0 e sz 0 [])) (nx + 1) :=
  ⟨Ev.name hg (.slice none 0 0) (fun b o hb _ => by simp [blk] at hb),
   SimG.name hg (.slice none 0 0) (.arr 0 0 e sz 0 []) (fun b o hb _ => by simp [blk] at hb) (fun b hb => by simp [blk] at hb) ⟨.slice none 0 0, [], by simp [Env.name, hg.nx], World.ownsRow_nil _ _ _ _, by simp, Rs.nil, fun b hb => by simp [blk] at hb, hsz⟩⟩
/-- A nil slice gets a name: it may grow and be written. -/
theorem aw_adopt_own {c : Code} (i : Nat) (e : TypeId) (sz : Nat) (h0 : st.at i = .list [] .nil) (hsz : 1 ≤ sz) (h : AW ρ P c Q { st with r := (i, .own st.nx 0 0) :: st.r, G := setG st.G st.nx (.arr 0 0 e sz 0 []), nx := st.nx + 1 }) : AW ρ P c Q st := by
  intro E w a hs
  obtain ⟨hev, hg⟩ := own_name hs.g e hsz
  have hp := hs.at i
  rw [h0] at hp
  have hs2 := hs.evd hev hg
  refine cwp_mono (fun _ _ _ hq => lift_trans hev hq) (h _ w a ⟨hs.d.ev hev, hs.sz, fun j v hj => ?_, hg⟩)
  simp only [getA]
  cases hb : Nat.beq i j
  · exact hs2.t j v hj
  · have hij := Nat.eq_of_beq_eq_true hb
    subst hij
    have hv : a.tmps.getD i undef = v := by rw [Array.getD_eq_getD_getElem?, hj]; rfl
    rw [hv] at hp
    exact own_of_nil hs.g.nx hp
theorem aw_adopt_own_box {c : Code} (n off wv : Nat) (cs : List C) (e : TypeId) (sz : Nat) (hG : st.G n = some (.box wv cs)) (h0 : cs[off]? = some (.list [] .nil)) (hsz : 1 ≤ sz) (h : AW ρ P c Q { st with G := setG (setG st.G st.nx (.arr 0 0 e sz 0 [])) n (.box wv (cs.set off (.own st.nx 0 0))), nx := st.nx + 1 }) : AW ρ P c Q st := by
  intro E w a hs
  have hnx := hs.g.nx
  obtain ⟨hev, hg⟩ := own_name hs.g e hsz
  obtain ⟨b, us, tt, hT, hh, hone, hr, hL⟩ := hs.g.obj n _ hG
  have hn := hs.g.lt n _ hT
  have hg2 : SimG (E.name (.slice none 0 0)) w (setG (setG st.G st.nx (.arr 0 0 e sz 0 [])) n (.box wv (cs.set off (.own st.nx 0 0)))) (st.nx + 1) := by
    refine ⟨hg.nx, fun k o ho => ?_, hg.lt, hg.tb, hg.ap, hg.fresh, hg.base⟩
    simp only [setG] at ho
    split at ho
    · rename_i ek
      subst ek
      simp only [Option.some.injEq] at ho
      subst ho
      have hr2 := hr.ev hev
      refine ⟨b, us, tt, by simp only [Env.name]; rw [if_neg (by omega)]; exact hT, hh, fun c hc => ?_, ⟨by rw [hr.1]; simp, fun j c v hc hv => ?_⟩, hL⟩
      · rcases List.mem_or_eq_of_mem_set hc with hc | rfl
        · exact hone c hc
        · rfl
      · rw [List.getElem?_set] at hc
        split at hc
        · rename_i ej
          subst ej
          split at hc
          · simp only [Option.some.injEq] at hc
            subst hc
            exact own_of_nil hnx (hr.2 off _ v h0 hv)
          · cases hc
        · exact hr2.2 j c v hc hv
    · rename_i ek
      exact hg.obj k o ho
  exact cwp_mono (fun _ _ _ hq => lift_trans hev hq) (h _ w a ⟨hs.d.ev hev, hs.sz, fun j v hj => (hs.t j v hj).ev hev, hg2⟩)
end

section
variable {P : Program} {o : Oper} {st : St} {K : St → Prop}
theorem own_at {E : Env} {w : World} {v val : Value} {n ver wv len : Nat} (hp : R E w (.own n ver len) v) (hT : E.T n = some (ver, wv, val)) : v = val ∧ n < E.nx ∧ ∃ a cap, v = .slice a len cap ∧ len ≤ cap ∧ cap ≤ maxLen := by
  cases hp with
  | own h1 h2 h3 h4 => exact ⟨((h4 _ _ _ hT).2 rfl).symm, h1, _, _, rfl, h2, h3⟩
/-- append onto an own slice. -/
theorem e_append_own0 {t e : TypeId} {sz bytes n ver wv m : Nat} [AppT P t e sz bytes] {s x : Operand} {tk : Tok} {cs : List C} {ys : List (List C)} (ho : o.op = .call { callee := .builtin .append, args := #[s, x], argTypes := #[t, t] }) (hs : evC st s = .own n ver m) (hG : st.G n = some (.arr ver wv e sz m cs)) (hx : evC st x = .list ys tk) (hsz : ∀ r ∈ ys, r.length = sz) (hb : (m + ys.length) * bytes ≤ 140737488355328) (hm : m + ys.length ≤ 9223372036854775807) (hy : ys ≠ [])
    (h : K (St.put { st with G := setG st.G n (.arr (ver + 1) wv e sz (m + ys.length) (cs ++ ys.flatten)) } o.dst (.own n (ver + 1) (m + ys.length)))) : EStep P o st K :=
  estep_run fun E w a hsim => by
    obtain ⟨ht, i, z, hie, hz, h1, h2, h3⟩ := AppT.spec (P := P) (t := t) (e := e) (sz := sz) (bytes := bytes)
    obtain ⟨val, us, hT, hown, hcone, hrs, hL, hsz1⟩ := hsim.g.obj n _ hG
    obtain ⟨e1, q1, as, cap, e2, h6, h7⟩ := own_at (hs ▸ hsim.ev s) hT
    obtain ⟨ao, c, news, e3, hl, hnews, hr, hone, h1c⟩ := app_src (hx ▸ hsim.ev x) hsz
    subst h1; subst h2
    obtain ⟨v', w', hrun, hown', hgr, hne, heq⟩ := run_append_at (P := P) w E.B t o.type e i z ht hie hz h3 val m us hown ao ys.length c news hl hnews h1c (by unfold maxLen; omega) hb hsim.g.base
    have hexec : (execOp a.eval o).run P w = .ok (.value v') w' := by
      simp only [execOp, ho, resolve, invoke, builtin, Sem.run_bind, Sem.run_pure, Result.andThen_ok, List.map_toArray, List.map_cons, List.map_nil, e1, e3]
      rw [hrun]; rfl
    have hy0 : ys.length ≠ 0 := fun e => hy (List.eq_nil_of_length_eq_zero e)
    obtain ⟨g, cap', rfl⟩ := hne hy0
    have hcellsg : ∃ o, w'.heap[g]? = some o ∧ o.isCells = true := by
      rcases hown'.2 with ⟨e, _⟩ | ⟨g', cap, cur, e, _, hh, _⟩
      · cases e
      · simp only [Value.slice.injEq, Option.some.injEq, Addr.mk.injEq] at e
        obtain ⟨⟨rfl, _⟩, _⟩ := e
        exact ⟨_, hh, rfl⟩
    have hchg : Chg E w w' ver wv val (ver + 1) wv (.slice (some ⟨g, 0, none⟩) (m + ys.length) cap') 0 := by
      have hgb : w.grownBy w' (blk val) := by
        rcases hgr with ⟨_, h⟩ | ⟨_, h⟩
        · exact h
        · exact ⟨h.os, h.tape, h.output, h.size, fun k hk _ => h.block k hk (by simp)⟩
      refine ⟨⟨hgb.os, hgb.tape, hgb.output, hgb.size, fun k hk => hgb.block k (Nat.lt_of_lt_of_le hk hsim.g.base) fun e => ?_⟩, fun k hk hne => hgb.block k hk (fun e => hne e.symm), fun b hb => ?_, fun b j hb hj => ?_, .inl (by omega), fun b o hb ho => ?_, fun _ b hb => ?_, fun b hb h0 => absurd h0 (Nat.not_lt_zero _)⟩
      · have := (hsim.g.tb n _ _ _ k hT e.symm).1; omega
      · simp only [blk, Option.some.injEq] at hb
        subst hb
        rcases hgr with ⟨h, _⟩ | ⟨h, _⟩
        · left
          exact ⟨h.symm, by rw [hL g h.symm]; exact Nat.le_refl _⟩
        · right
          simp only [blk, Option.some.injEq] at h
          subst h
          obtain ⟨_, _, _, _, hlt⟩ := own_slice hown' (b := w.heap.size) rfl
          exact ⟨Nat.le_refl _, hlt⟩
      · rw [hL b hb] at hj; omega
      · rcases hown.2 with ⟨e, _⟩ | ⟨g', cap, cur, e, _, hh, _⟩
        · rw [e] at hb; simp [blk] at hb
        · rw [e] at hb
          simp only [blk, Option.some.injEq] at hb
          subst hb
          rw [hh] at ho; cases ho
          rcases hgr with ⟨h, _⟩ | ⟨_, h⟩
          · have hbg : g' = g := by rw [e] at h; simp only [blk, Option.some.injEq] at h; exact h.symm
            subst hbg
            exact hcellsg
          · have hlt := (Array.getElem?_eq_some_iff.1 hh).1
            exact ⟨_, (h.block g' hlt (by simp)).trans hh, rfl⟩
      · simp only [blk, Option.some.injEq] at hb
        subst hb
        exact hcellsg
    have hev := Ev.chg hsim.g hT hchg
    obtain ⟨cap2, hc2, hc3, hc4, _⟩ := own_slice hown' (b := g) rfl
    simp only [Value.slice.injEq, true_and] at hc2
    subst hc2
    have hobj : ObjOk (E.chg n (ver + 1, wv, .slice (some ⟨g, 0, none⟩) (m + ys.length) cap') 0) w' n (.arr (ver + 1) wv e i.size (m + ys.length) (cs ++ ys.flatten)) := by
      refine ⟨_, us ++ news, by simp [Env.chg], hown', fun d hd => ?_, (hrs.ev hev).append (hr.ev hev), fun b hb => ?_, hsz1⟩
      · rcases List.mem_append.1 hd with hd | hd
        · exact hcone d hd
        · obtain ⟨r, hr1, hr2⟩ := List.mem_flatten.1 hd
          exact hone r hr1 d hr2
      · simp only [blk, Option.some.injEq] at hb
        subst hb
        simp [Env.chg, blk]
    refine ⟨_, w', _, _, st.nx, .own n (ver + 1) (m + ys.length), hexec, hev, ?_, SimG.chg hsim.g hT hchg hobj, h⟩
    refine .own q1 hc3 hc4 fun ver' wv' val' ht => ?_
    simp only [Env.chg, if_true, Option.some.injEq, Prod.mk.injEq] at ht
    obtain ⟨rfl, rfl, rfl⟩ := ht
    exact ⟨Nat.le_refl _, fun _ => rfl⟩
/-- A list's cells, one behind the other. -/
def flatC {α : Type} [Enc α] (xs : List α) : List C := (xs.map cells).flatten
theorem flatC_nil {α : Type} [Enc α] : flatC ([] : List α) = [] := rfl
theorem flatC_append {α : Type} [Enc α] (xs ys : List α) : flatC (xs ++ ys) = flatC xs ++ flatC ys := by simp [flatC]
theorem flatC_len {α : Type} [Enc α] (xs : List α) : (flatC xs).length = xs.length * Enc.n α := by
  unfold flatC; rw [flat_len (map_len xs), List.length_map]
theorem flatC_get {α : Type} [Enc α] {xs : List α} {k j : Nat} {x : α} {c : C} (hx : xs[k]? = some x) (hj : (cells x)[j]? = some c) : (flatC xs)[k * Enc.n α + j]? = some c := flat_get (map_len xs) (map_get hx) hj
theorem flatC_low {α : Type} [Enc α] {m : Nat} (xs : List α) : ∀ c ∈ flatC xs, C.low m c := fun c hc => by
  obtain ⟨r, hr, hc⟩ := List.mem_flatten.1 hc
  obtain ⟨x, _, rfl⟩ := List.mem_map.1 hr
  exact Enc.low m x c hc
theorem flatC_row {α : Type} [Enc α] {xs : List α} {k : Nat} {x : α} (hx : xs[k]? = some x) : ((flatC xs).drop (k * Enc.n α)).take (Enc.n α) = cells x := by
  apply List.ext_getElem?
  intro j
  rw [List.getElem?_take]
  by_cases hj : j < Enc.n α
  · rw [if_pos hj, List.getElem?_drop, flatC_get hx (List.getElem?_eq_getElem (by rw [Enc.len]; exact hj)), List.getElem?_eq_getElem]
  · rw [if_neg hj, List.getElem?_eq_none (by rw [Enc.len]; omega)]
theorem putAt_len (cs new : List C) : ∀ off, (putAt cs off new).length = cs.length := by
  induction new generalizing cs with
  | nil => intro off; rfl
  | cons x r ih => intro off; rw [putAt, ih]; simp
theorem flatC_split {α : Type} [Enc α] {xs : List α} {k : Nat} {x : α} (hx : xs[k]? = some x) : flatC xs = flatC (xs.take k) ++ (cells x ++ flatC (xs.drop (k + 1))) ∧ (flatC (xs.take k)).length = k * Enc.n α := by
  have hlt := (List.getElem?_eq_some_iff.1 hx).1
  refine ⟨?_, by rw [flatC_len, List.length_take, Nat.min_eq_left (Nat.le_of_lt hlt)]⟩
  have e : xs = xs.take k ++ (x :: xs.drop (k + 1)) := by
    have h1 := (List.getElem?_eq_some_iff.1 hx).2
    rw [← h1, List.getElem_cons_drop, List.take_append_drop]
  conv => lhs; rw [e]
  rw [flatC_append]
  simp [flatC]
theorem flatC_set {α : Type} [Enc α] {xs : List α} {k : Nat} {x : α} (hx : xs[k]? = some x) (y : α) : putAt (flatC xs) (k * Enc.n α) (cells y) = flatC (xs.set k y) := by
  have hlt := (List.getElem?_eq_some_iff.1 hx).1
  obtain ⟨e1, l1⟩ := flatC_split hx
  obtain ⟨e2, l2⟩ := flatC_split (xs := xs.set k y) (k := k) (x := y) (by rw [List.getElem?_set_self hlt])
  rw [putAt_eq _ _ _ (by rw [e1]; simp only [List.length_append, l1, Enc.len]; omega), e2, List.take_set_of_le (Nat.le_refl _), List.drop_set_of_lt (by omega), e1]
  rw [List.append_assoc]
  congr 1
  · rw [List.take_append_of_le_length (by omega), List.take_of_length_le (by omega)]
  · congr 1
    rw [Enc.len, ← l1, ← List.drop_drop, List.drop_left]
    have : Enc.n α = (cells x).length := (Enc.len x).symm
    rw [this, List.drop_left]
theorem flatC_set1 {α : Type} [Enc α] {xs : List α} {k j : Nat} {x y : α} {c : C} (hx : xs[k]? = some x) (hj : j < Enc.n α) (hc : (cells x).set j c = cells y) : (flatC xs).set (k * Enc.n α + j) c = flatC (xs.set k y) := by
  have hlt := (List.getElem?_eq_some_iff.1 hx).1
  obtain ⟨e1, l1⟩ := flatC_split hx
  obtain ⟨e2, l2⟩ := flatC_split (xs := xs.set k y) (k := k) (x := y) (by rw [List.getElem?_set_self hlt])
  rw [e2, List.take_set_of_le (Nat.le_refl _), List.drop_set_of_lt (by omega), e1]
  rw [List.set_append_right _ _ (by omega), l1, show k * Enc.n α + j - k * Enc.n α = j by omega, List.set_append_left _ _ (by rw [Enc.len]; exact hj), hc]
/-- .. of data. -/
theorem e_append_own {α : Type} [Enc α] {t e : TypeId} {bytes n ver wv : Nat} [AppT P t e (Enc.n α) bytes] {s x : Operand} {tk : Tok} {rows : List (List C)} {xs : List α} {m : Nat} {cs : List C} (y : α) (ho : o.op = .call { callee := .builtin .append, args := #[s, x], argTypes := #[t, t] }) (hs : evC st s = .own n ver m) (hG : st.G n = some (.arr ver wv e (Enc.n α) m cs)) (hc : cs = flatC xs) (hm : m = xs.length) (hx : evC st x = .list rows tk) (hy : rows = [cells y]) (hb : (xs.length + 1) * bytes ≤ 140737488355328)
    (h : K (St.put { st with G := setG st.G n (.arr (ver + 1) wv e (Enc.n α) (xs ++ [y]).length (flatC (xs ++ [y]))) } o.dst (.own n (ver + 1) (xs ++ [y]).length))) (hmax : xs.length + 1 ≤ 9223372036854775807) : EStep P o st K := by
  subst hc; subst hm; subst hy
  refine e_append_own0 ho hs hG hx (fun r hr => ?_) (by simpa using hb) (by simpa using hmax) (by simp) ?_
  · simp only [List.mem_singleton] at hr
    subst hr
    exact Enc.len y
  · have : flatC (xs ++ [y]) = flatC xs ++ [cells y].flatten := by rw [flatC_append]; simp [flatC]
    rw [← this]
    simpa using h
theorem n_len_own {t : TypeId} {x : Operand} {n ver len : Nat} {e : TypeId} [Elt P t e] (ho : o.op = .call { callee := .builtin .len, args := #[x], argTypes := #[t] }) (hx : evC st x = .own n ver len) : NStep P o st (.v (.int .i64 len)) := fun E w a hs => by
  have hp := hx ▸ hs.ev x
  have h1 := Elt.spec (P := P) (t := t) (e := e)
  generalize hv : a.eval x = v at hp
  cases hp with
  | own q1 q2 q3 q4 =>
    have hm : maxLen = 9223372036854775807 := rfl
    refine ⟨_, .v (okV_i64 (by omega)), fun w' => ?_⟩
    simp [execOp, ho, hv, resolve, invoke, builtin, Builtin.len_, run_underlying h1, goInt]
theorem n_indexAddr_own {t : TypeId} {x i : Operand} {m ver len : Nat} {e : TypeId} {ik : IntKind} {n : Int} {k sz wv : Nat} {ag : Bool} {tt : TypeId} {esz : Nat} {cs : List C} [Elt P t e] [Ty P e ag sz] (ho : o.op = .indexAddr t x i) (hx : evC st x = .own m ver len) (hG : st.G m = some (.arr ver wv tt esz len cs)) (hi : evC st i = .v (.int ik n)) (hn : n = (k : Int)) (hk : k < len) : NStep P o st (.box m ver (k * sz)) := fun E w a hs => by
  subst hn
  obtain ⟨val, us, hT, hown, hcone, hrs, hL, hsz1⟩ := hs.g.obj m _ hG
  have hp := hx ▸ hs.ev x
  obtain ⟨e1, q1, as, cap, e2, h6, h7⟩ := own_at hp hT
  have h2 := (hi ▸ hs.ev i).v_inv
  obtain ⟨b, hb⟩ : ∃ b, as = some ⟨b, 0, none⟩ := by
    rcases hown.2 with ⟨e, e0⟩ | ⟨g, cap, cur, e, _⟩
    · omega
    · rw [← e1, e2] at e
      simp only [Value.slice.injEq] at e
      exact ⟨g, e.1⟩
  subst hb
  have h1 := Elt.spec (P := P) (t := t) (e := e)
  have h3 := fun w => Ty.size (P := P) (w := w) (t := e) (ag := ag) (n := sz)
  refine ⟨.pointer (some ⟨b, k * sz, none⟩), .box q1 fun ver' wv' val' ht => ?_, fun w' => ?_⟩
  · rw [hT] at ht
    simp only [Option.some.injEq, Prod.mk.injEq] at ht
    obtain ⟨rfl, rfl, rfl⟩ := ht
    exact ⟨Nat.le_refl _, fun _ => by rw [← e1, e2]; rfl⟩
  · have q3 : (k : Int) < (len : Int) := by omega
    simp [execOp, ho, h2, e2, Instr.indexAt, run_underlying h1, h3, asIntOf, q3, addr_add]
    intro h; omega

/-- A place in an own slice. -/
theorem own_place {E : Env} {w : World} {n ver off wv esz len : Nat} {tt : TypeId} {cs : List C} {p : Value} (hp : R E w (.box n ver off) p) (hG : ObjOk E w n (.arr ver wv tt esz len cs)) (hlt : 0 < cs.length) :
    ∃ g cap cur, p = .pointer (some ⟨g, off, none⟩) ∧ E.T n = some (ver, wv, .slice (some ⟨g, 0, none⟩) len cap) ∧ E.B ≤ g ∧ w.heap[g]? = some (.cells cur tt (0, 0)) ∧ len ≤ cap ∧ cap ≤ maxLen ∧ cur.size = cap * esz ∧ cs.length = len * esz ∧ Rs E w cs (cur.toList.take (len * esz)) ∧ (∀ c ∈ cs, c.one = true) ∧ E.L g = 0 ∧ 1 ≤ esz := by
  obtain ⟨val, us, hT, hown, hcone, hrs, hL, hsz1⟩ := hG
  rcases hown.2 with ⟨e, e0⟩ | ⟨g, cap, cur, e, h1, h2, h3, h4, h5, h6⟩
  · have := hrs.1
    rw [hown.1, e0] at this
    omega
  · subst e
    cases hp with
    | box q1 q2 =>
      have := (q2 _ _ _ hT).2 rfl
      simp only [blk, Option.some.injEq] at this
      subst this
      exact ⟨g, cap, cur, rfl, hT, h1, h2, h3, h4, h5, by rw [← hrs.1, hown.1], h6 ▸ hrs, hcone, hL g rfl, hsz1⟩
theorem s_load_own {D : Nat → Prop} {t : TypeId} [Ty P t false 1] {x : Operand} {n ver off wv esz len : Nat} {tt : TypeId} {cs : List C} {c : C} (ho : o.op = .load t x) (hx : evC st x = .box n ver off) (hG : st.G n = some (.arr ver wv tt esz len cs)) (hD : D n) (hc : cs[off]? = some c) : SStep P D o st c := fun E w a hs => by
  have hlt := (List.getElem?_eq_some_iff.1 hc).1
  obtain ⟨g, cap, cur, hv, hT, hB, hh, h1, h2, h3, h4, hr, hone, hL, h5⟩ := own_place (hx ▸ hs.ev x) (hs.g.obj n _ hG) (by omega)
  have hl : off < (cur.toList.take (len * esz)).length := by rw [hr.1]; exact hlt
  refine ⟨(cur.toList.take (len * esz))[off], hr.2 off c _ hc (List.getElem?_eq_getElem hl), fun w' hk => ?_⟩
  have h6 := hk.2 n hD _ _ _ g hT rfl
  have h7 : w'.cell? ⟨g, off, none⟩ = some (cur.toList.take (len * esz))[off] := cell_of_heap (h6.trans hh) (by
    have := List.getElem?_eq_getElem hl
    rw [List.getElem?_take, if_pos (by omega)] at this
    rw [← Array.getElem?_toList]; exact this)
  simp [execOp, ho, hv, run_load_cell (P := P) (t := t) h7]
theorem s_load_own_agg {D : Nat → Prop} {t : TypeId} {sz : Nat} [Ty P t true sz] {x : Operand} {n ver off wv esz len : Nat} {tt : TypeId} {cs : List C} (ho : o.op = .load t x) (hx : evC st x = .box n ver off) (hG : st.G n = some (.arr ver wv tt esz len cs)) (hD : D n) (hc : off + sz ≤ cs.length) (h0 : 1 ≤ sz) : SStep P D o st (.agg ((cs.drop off).take sz)) := fun E w a hs => by
  obtain ⟨g, cap, cur, hv, hT, hB, hh, h1, h2, h3, h4, hr, hone, hL, h5⟩ := own_place (hx ▸ hs.ev x) (hs.g.obj n _ hG) (by omega)
  have hr2 := (hr.dropn off).take sz
  refine ⟨.agg (((cur.toList.take (len * esz)).drop off).take sz).toArray, hr2.agg (fun c hc => hone c (List.mem_of_mem_drop (List.mem_of_mem_take hc))), fun w' hk => ?_⟩
  have h6 := hk.2 n hD _ _ _ g hT rfl
  have hrun := run_load_cells (P := P) (t := t) (n := sz) (b := g) (off := off) (us := ((cur.toList.take (len * esz)).drop off).take sz) (w' := w') (by rw [hr2.1]; simp; omega) fun j v hj => by
    rw [List.getElem?_take] at hj
    split at hj
    · rw [List.getElem?_drop, List.getElem?_take] at hj
      split at hj
      · exact cell_of_heap (h6.trans hh) (by rw [← Array.getElem?_toList]; exact hj)
      · cases hj
    · cases hj
  simp only [execOp, ho, hv, Sem.run_bind, hrun, Result.andThen_ok]
  rfl
/-- A whole element. -/
theorem s_load_own_row {α : Type} [Enc α] {D : Nat → Prop} {t : TypeId} [Ty P t true (Enc.n α)] {x : Operand} {n ver off wv esz len k : Nat} {tt : TypeId} {xs : List α} {y : α} {cs : List C} (ho : o.op = .load t x) (hx : evC st x = .box n ver off) (hG : st.G n = some (.arr ver wv tt esz len cs)) (hD : D n) (hcs : cs = flatC xs) (hy : xs[k]? = some y) (hoff : off = k * Enc.n α) (h0 : 1 ≤ Enc.n α) : SStep P D o st (.agg (cells y)) := by
  subst hcs; subst hoff
  have hlt := (List.getElem?_eq_some_iff.1 hy).1
  have hm : (k + 1) * Enc.n α ≤ xs.length * Enc.n α := Nat.mul_le_mul_right _ hlt
  rw [Nat.add_mul] at hm
  have := s_load_own_agg (P := P) (D := D) (o := o) (st := st) (t := t) ho hx hG hD (by rw [flatC_len]; omega) h0
  rwa [flatC_row hy] at this
/-- What the run of a store into an own slice leaves. -/
theorem store_own {E : Env} {w : World} {a : Act} (hs : Sim E w st a) {t : TypeId} {ag : Bool} {sz : Nat} [Ty P t ag sz] {n ver off wv esz len : Nat} {tt : TypeId} {cs new : List C} {p v : Value} (hp : R E w (.box n ver off) p) (hG : st.G n = some (.arr ver wv tt esz len cs)) (hv : Rs E w new v.cells.toList) (h1 : ∀ c ∈ new, c.one = true) (hsz : new.length = sz) (hb : off + sz ≤ cs.length) (h0 : 1 ≤ sz) :
    ∃ w' E', (Instr.storeAt t p v).run P w = .ok () w' ∧ Ev E w E' w' ∧ SimG E' w' (setG st.G n (.arr ver (wv + 1) tt esz len (putAt cs off new))) st.nx := by
  obtain ⟨g, cap, cur, rfl, hT, hB, hh, k1, k2, k3, k4, hr, hone, hL, k5⟩ := own_place hp (hs.g.obj n _ hG) (by omega)
  have hvl := hv.1
  simp only [Array.length_toList] at hvl
  have h2 := Ty.size (P := P) (w := w) (t := t) (ag := ag) (n := sz)
  have hmul : len * esz ≤ cap * esz := Nat.mul_le_mul_right _ k1
  have hst := run_storeCells_at (P := P) g off tt v.cells.toList 0 cur w hh (by simp; omega) (hv.oneCell h1)
  have hrun : (Instr.storeAt t (.pointer (some ⟨g, off, none⟩)) v).run P w = .ok () (w.setRow g (cur.toList.take (off + 0) ++ v.cells.toList ++ cur.toList.drop (off + 0 + v.cells.toList.length)).toArray) := by
    simp only [Instr.storeAt, Instr.sureAddr, storeVar, Sem.run_bind, Sem.run_pure, Result.andThen_ok, h2]
    rw [if_neg (by omega)]
    exact hst
  simp only [Nat.add_zero] at hrun
  refine ⟨_, E.chg n (ver, wv + 1, .slice (some ⟨g, 0, none⟩) len cap) 0, hrun, ?_⟩
  have hchg : Chg E w (w.setRow g (cur.toList.take off ++ v.cells.toList ++ cur.toList.drop (off + v.cells.toList.length)).toArray) ver wv (.slice (some ⟨g, 0, none⟩) len cap) ver (wv + 1) (.slice (some ⟨g, 0, none⟩) len cap) 0 := by
    refine ⟨?_, fun k _ hk => setRow_other w g k _ (fun e => hk (by simp [blk, e])), fun b hb => .inl ⟨hb, ?_⟩, fun b i hb hi => ?_, .inr ⟨rfl, rfl, by omega⟩, fun b o hb ho => ?_, fun hv => absurd hv (Nat.lt_irrefl _), fun b _ hl => absurd hl (Nat.not_lt_zero _)⟩
    · exact ⟨rfl, rfl, rfl, by simp [World.setRow], fun k hk => setRow_other w g k _ (by omega)⟩
    · simp only [blk, Option.some.injEq] at hb; subst hb; omega
    · simp only [blk, Option.some.injEq] at hb; subst hb; omega
    · simp only [blk, Option.some.injEq] at hb; subst hb; rw [hh] at ho; cases ho; exact ⟨_, setRow_heap w g cur _ tt _ hh, rfl⟩
  refine ⟨Ev.chg hs.g hT hchg, SimG.chg hs.g hT hchg ?_⟩
  have hev := Ev.chg hs.g hT hchg
  have hput := (hr.ev hev).putAt (hv.ev hev) (off := off) (by omega)
  have hcut : (cur.toList.take off ++ v.cells.toList ++ cur.toList.drop (off + v.cells.toList.length)).take (len * esz) = (cur.toList.take (len * esz)).take off ++ v.cells.toList ++ (cur.toList.take (len * esz)).drop (off + v.cells.toList.length) := by
    have l1 : (cur.toList.take off).length = off := by rw [List.length_take]; simp; omega
    rw [List.take_append, List.take_append, List.take_take, List.take_take, List.drop_take, l1, List.length_append, l1]
    have e1 : min (len * esz) off = min off (len * esz) := Nat.min_comm _ _
    have e2 : v.cells.toList.take (len * esz - off) = v.cells.toList := List.take_of_length_le (by simp; omega)
    rw [e1, e2]
  refine ⟨_, _, by simp [Env.chg], ⟨?_, .inr ⟨g, cap, _, rfl, hB, setRow_heap w g cur _ tt _ hh, k1, k2, ?_, rfl⟩⟩, ?_, ?_, fun b hb => by simp only [blk, Option.some.injEq] at hb; subst hb; simp [Env.chg, blk], k5⟩
  · simp; omega
  · simp; omega
  · rw [putAt_eq cs off new (by omega)]
    intro c hc
    rcases List.mem_append.1 hc with hc | hc
    · rcases List.mem_append.1 hc with hc | hc
      · exact hone c (List.mem_of_mem_take hc)
      · exact h1 c hc
    · exact hone c (List.mem_of_mem_drop hc)
  · simp only [List.toList_toArray]
    rw [hcut]
    exact hput
theorem e_store_own {t : TypeId} {ag : Bool} {sz : Nat} [Ty P t ag sz] {x y : Operand} {n ver off wv esz len : Nat} {tt : TypeId} {cs new : List C} (ho : o.op = .store t x y) (hd : o.dst = none) (hx : evC st x = .box n ver off) (hG : st.G n = some (.arr ver wv tt esz len cs)) (hy : cellsC (evC st y) = some new) (hsz : new.length = sz) (hb : off + sz ≤ cs.length) (h0 : 1 ≤ sz)
    (h : K { st with G := setG st.G n (.arr ver (wv + 1) tt esz len (putAt cs off new)), nx := st.nx }) : EStep P o st K := fun E w a hs Kr Q hq => by
  obtain ⟨hv, h1⟩ := (hs.ev y).cells hy
  obtain ⟨w', E', hrun, hev, hg⟩ := store_own hs (P := P) (t := t) (hx ▸ hs.ev x) hG hv h1 hsz hb h0
  unfold Oper.wp
  have : (execOp a.eval o).run P w = .ok .skip w' := by simp [execOp, ho, hrun]
  rw [this]
  have h2 := hs.evd hev hg
  refine hq _ _ _ E' hev ?_ h
  simpa [Act.put, hd] using h2
/-- One cell of an element. -/
theorem e_store_own1 {α : Type} [Enc α] {t : TypeId} [Ty P t false 1] {x y : Operand} {n ver off wv esz len k j : Nat} {tt : TypeId} {xs : List α} {z z' : α} {c : C} {cs : List C} (ho : o.op = .store t x y) (hd : o.dst = none) (hx : evC st x = .box n ver off) (hG : st.G n = some (.arr ver wv tt esz len cs)) (hcs : cs = flatC xs) (hy : cellsC (evC st y) = some [c]) (hz : xs[k]? = some z) (hoff : off = k * Enc.n α + j) (hj : j < Enc.n α) (hz' : (cells z).set j c = cells z')
    (h : K { st with G := setG st.G n (.arr ver (wv + 1) tt esz len (flatC (xs.set k z'))), nx := st.nx }) : EStep P o st K := by
  subst hcs; subst hoff
  have hlt := (List.getElem?_eq_some_iff.1 hz).1
  have hm : (k + 1) * Enc.n α ≤ xs.length * Enc.n α := Nat.mul_le_mul_right _ hlt
  rw [Nat.add_mul] at hm
  refine e_store_own (sz := 1) ho hd hx hG hy rfl (by rw [flatC_len]; omega) (Nat.le_refl _) ?_
  rw [show putAt (flatC xs) (k * Enc.n α + j) [c] = flatC (xs.set k z') from flatC_set1 hz hj hz']
  exact h
/-- A whole element. -/
theorem e_store_ownrow {α : Type} [Enc α] {t : TypeId} {ag : Bool} [Ty P t ag (Enc.n α)] {x y : Operand} {n ver off wv esz len k : Nat} {tt : TypeId} {xs : List α} {z z' : α} {cs : List C} (ho : o.op = .store t x y) (hd : o.dst = none) (hx : evC st x = .box n ver off) (hG : st.G n = some (.arr ver wv tt esz len cs)) (hcs : cs = flatC xs) (hy : cellsC (evC st y) = some (cells z')) (hz : xs[k]? = some z) (hoff : off = k * Enc.n α) (h0 : 1 ≤ Enc.n α)
    (h : K { st with G := setG st.G n (.arr ver (wv + 1) tt esz len (flatC (xs.set k z'))), nx := st.nx }) : EStep P o st K := by
  subst hcs; subst hoff
  have hlt := (List.getElem?_eq_some_iff.1 hz).1
  have hm : (k + 1) * Enc.n α ≤ xs.length * Enc.n α := Nat.mul_le_mul_right _ hlt
  rw [Nat.add_mul] at hm
  refine e_store_own (ag := ag) (sz := Enc.n α) ho hd hx hG hy (Enc.len z') (by rw [flatC_len]; omega) h0 ?_
  rw [flatC_set hz]
  exact h
end
end Go.AB
